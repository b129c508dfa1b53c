/- The library's contracts of slices.Sort, slices.Compact and bits.Len, laid at this program. -/
import Derived.Shelf.Lay
import Derived.Shelf.Sort.Plain
import Derived.Shelf.Small.Bits
import Derived.Ground.Names2Prog
import Derived.Shelf.Slices.CompactI
import Derived.Test.YtmnbljfbdiodbaaProg
namespace Go.Proofs
open Go.Shelf
def Try.lays125_ren : Go.Shelf.Ren :=
{
  f := fun x =>
    match x with
    | 125 => 44
    | 128 => 60
    | 129 => 61
    | n => n,
  t := fun x =>
    match x with
    | 46 => 70
    | 3 => 3
    | 51 => 89
    | 53 => 39
    | 4 => 4
    | 5 => 5
    | 9 => 9
    | n => n,
  g := fun x =>
    have n := x;
    n }

theorem Try.lays125 : Go.Proofs.Lays.n125 Go.Proofs.Try.prog Go.Proofs.Try.lays125_ren :=
{ mixed := by kernel_rfl,
  f125 := Eq.trans Go.Proofs.Try.func44 (congrArg some (by kernel_rfl)),
  f128 := Eq.trans Go.Proofs.Try.func60 (congrArg some (by kernel_rfl)),
  f129 := Eq.trans Go.Proofs.Try.func61 (congrArg some (by kernel_rfl)),
  t3 := Go.Proofs.Try.underlying3, a3 := Go.Proofs.Try.isAgg3, z3 := Go.Proofs.Try.sizeOf3,
  v3 := Go.Proofs.Try.zeroValue3, t4 := Go.Proofs.Try.underlying4, a4 := Go.Proofs.Try.isAgg4,
  z4 := Go.Proofs.Try.sizeOf4, v4 := Go.Proofs.Try.zeroValue4, t5 := Go.Proofs.Try.underlying5,
  a5 := Go.Proofs.Try.isAgg5, z5 := Go.Proofs.Try.sizeOf5, v5 := Go.Proofs.Try.zeroValue5,
  t9 := Go.Proofs.Try.underlying9, a9 := Go.Proofs.Try.isAgg9, z9 := Go.Proofs.Try.sizeOf9,
  v9 := Go.Proofs.Try.zeroValue9, t46 := Go.Proofs.Try.underlying70, a46 := Go.Proofs.Try.isAgg70,
  z46 := Go.Proofs.Try.sizeOf70, v46 := Go.Proofs.Try.zeroValue70, t51 := Go.Proofs.Try.underlying89,
  a51 := Go.Proofs.Try.isAgg89, z51 := Go.Proofs.Try.sizeOf89, v51 := Go.Proofs.Try.zeroValue89,
  t53 := Go.Proofs.Try.underlying39, a53 := Go.Proofs.Try.isAgg39, z53 := Go.Proofs.Try.sizeOf39,
  v53 := Go.Proofs.Try.zeroValue39 }

theorem Try.bits_Len (x : Int) (w : World) (h0 : 0 ≤ x) (h1 : x ≤ 18446744073709551615) :
    Calls Try.prog 44 #[.int .u64 x] w fun e w' => e = .returned (.int .i64 (Lib.bitLen x.toNat)) ∧ w' = w := Any.bits_Len Try.lays125 x w h0 h1
def Try.lays189_ren : Go.Shelf.Ren :=
{
  f := fun x =>
    match x with
    | 189 => 34
    | 125 => 44
    | 257 => 43
    | 128 => 60
    | 129 => 61
    | 294 => 51
    | 295 => 52
    | 296 => 53
    | 297 => 54
    | 298 => 55
    | 299 => 56
    | 216 => 57
    | 300 => 58
    | 301 => 59
    | 328 => 65
    | 329 => 66
    | 330 => 67
    | 331 => 68
    | 332 => 69
    | 215 => 70
    | 343 => 73
    | n => n,
  t := fun x =>
    match x with
    | 28 => 24
    | 3 => 3
    | 46 => 70
    | 0 => 0
    | 51 => 89
    | 53 => 39
    | 4 => 4
    | 183 => 82
    | 182 => 81
    | 131 => 77
    | 5 => 5
    | 9 => 9
    | 218 => 92
    | 222 => 96
    | 228 => 100
    | 229 => 101
    | n => n,
  g := fun x =>
    have n := x;
    n }

theorem Try.lays189 : Go.Proofs.Lays.n189 Go.Proofs.Try.prog Go.Proofs.Try.lays189_ren :=
{ mixed := by kernel_rfl,
  f125 := Eq.trans Go.Proofs.Try.func44 (congrArg some (by kernel_rfl)),
  f128 := Eq.trans Go.Proofs.Try.func60 (congrArg some (by kernel_rfl)),
  f129 := Eq.trans Go.Proofs.Try.func61 (congrArg some (by kernel_rfl)),
  f189 := Eq.trans Go.Proofs.Try.func34 (congrArg some (by kernel_rfl)),
  f215 := Eq.trans Go.Proofs.Try.func70 (congrArg some (by kernel_rfl)),
  f216 := Eq.trans Go.Proofs.Try.func57 (congrArg some (by kernel_rfl)),
  f257 := Eq.trans Go.Proofs.Try.func43 (congrArg some (by kernel_rfl)),
  f294 := Eq.trans Go.Proofs.Try.func51 (congrArg some (by kernel_rfl)),
  f295 := Eq.trans Go.Proofs.Try.func52 (congrArg some (by kernel_rfl)),
  f296 := Eq.trans Go.Proofs.Try.func53 (congrArg some (by kernel_rfl)),
  f297 := Eq.trans Go.Proofs.Try.func54 (congrArg some (by kernel_rfl)),
  f298 := Eq.trans Go.Proofs.Try.func55 (congrArg some (by kernel_rfl)),
  f299 := Eq.trans Go.Proofs.Try.func56 (congrArg some (by kernel_rfl)),
  f300 := Eq.trans Go.Proofs.Try.func58 (congrArg some (by kernel_rfl)),
  f301 := Eq.trans Go.Proofs.Try.func59 (congrArg some (by kernel_rfl)),
  f328 := Eq.trans Go.Proofs.Try.func65 (congrArg some (by kernel_rfl)),
  f329 := Eq.trans Go.Proofs.Try.func66 (congrArg some (by kernel_rfl)),
  f330 := Eq.trans Go.Proofs.Try.func67 (congrArg some (by kernel_rfl)),
  f331 := Eq.trans Go.Proofs.Try.func68 (congrArg some (by kernel_rfl)),
  f332 := Eq.trans Go.Proofs.Try.func69 (congrArg some (by kernel_rfl)),
  f343 := Eq.trans Go.Proofs.Try.func73 (congrArg some (by kernel_rfl)),
  t0 := Go.Proofs.Try.underlying0, a0 := Go.Proofs.Try.isAgg0, z0 := Go.Proofs.Try.sizeOf0,
  v0 := Go.Proofs.Try.zeroValue0, t3 := Go.Proofs.Try.underlying3, a3 := Go.Proofs.Try.isAgg3,
  z3 := Go.Proofs.Try.sizeOf3, v3 := Go.Proofs.Try.zeroValue3, t4 := Go.Proofs.Try.underlying4,
  a4 := Go.Proofs.Try.isAgg4, z4 := Go.Proofs.Try.sizeOf4, v4 := Go.Proofs.Try.zeroValue4,
  t5 := Go.Proofs.Try.underlying5, a5 := Go.Proofs.Try.isAgg5, z5 := Go.Proofs.Try.sizeOf5,
  v5 := Go.Proofs.Try.zeroValue5, t9 := Go.Proofs.Try.underlying9, a9 := Go.Proofs.Try.isAgg9,
  z9 := Go.Proofs.Try.sizeOf9, v9 := Go.Proofs.Try.zeroValue9, t28 := Go.Proofs.Try.underlying24,
  a28 := Go.Proofs.Try.isAgg24, z28 := Go.Proofs.Try.sizeOf24, v28 := Go.Proofs.Try.zeroValue24,
  t46 := Go.Proofs.Try.underlying70, a46 := Go.Proofs.Try.isAgg70, z46 := Go.Proofs.Try.sizeOf70,
  v46 := Go.Proofs.Try.zeroValue70, t51 := Go.Proofs.Try.underlying89, a51 := Go.Proofs.Try.isAgg89,
  z51 := Go.Proofs.Try.sizeOf89, v51 := Go.Proofs.Try.zeroValue89, t53 := Go.Proofs.Try.underlying39,
  a53 := Go.Proofs.Try.isAgg39, z53 := Go.Proofs.Try.sizeOf39, v53 := Go.Proofs.Try.zeroValue39,
  t131 := Go.Proofs.Try.underlying77, a131 := Go.Proofs.Try.isAgg77, z131 := Go.Proofs.Try.sizeOf77,
  v131 := Go.Proofs.Try.zeroValue77, t182 := Go.Proofs.Try.underlying81, a182 := Go.Proofs.Try.isAgg81,
  z182 := Go.Proofs.Try.sizeOf81, v182 := Go.Proofs.Try.zeroValue81, t183 := Go.Proofs.Try.underlying82,
  a183 := Go.Proofs.Try.isAgg82, z183 := Go.Proofs.Try.sizeOf82, v183 := Go.Proofs.Try.zeroValue82,
  t218 := Go.Proofs.Try.underlying92, a218 := Go.Proofs.Try.isAgg92, z218 := Go.Proofs.Try.sizeOf92,
  v218 := Go.Proofs.Try.zeroValue92, t222 := Go.Proofs.Try.underlying96, a222 := Go.Proofs.Try.isAgg96,
  z222 := Go.Proofs.Try.sizeOf96, v222 := Go.Proofs.Try.zeroValue96, t228 := Go.Proofs.Try.underlying100,
  a228 := Go.Proofs.Try.isAgg100, z228 := Go.Proofs.Try.sizeOf100, v228 := Go.Proofs.Try.zeroValue100,
  t229 := Go.Proofs.Try.underlying101, a229 := Go.Proofs.Try.isAgg101, z229 := Go.Proofs.Try.sizeOf101,
  v229 := Go.Proofs.Try.zeroValue101 }

open Go.Sort Go.RowKit in
theorem Try.slices_Sort_int (blk off cap : Nat) (zs : List Int) (w : World) (hH : Holds (Value.int .i64) w blk off zs.toArray) (hblk : blk < w.heap.size) (hsz : zs.length < 4611686018427387904) :
    Calls Try.prog 34 #[.slice (some ⟨blk, off, none⟩) zs.length cap] w fun e w' =>
      e = .returned (.tuple #[]) ∧ ∃ n os, w' = grow (putRow (Value.int .i64) (Sort.ahead w n) blk off (zs.mergeSort fun x y => decide (x ≤ y)).toArray) os := Any.slices_Sort_int Try.lays189 blk off cap zs w hH hblk hsz
def Try.laysNm220_ren : Go.Shelf.Ren :=
{
  f := fun x =>
    match x with
    | 20 => 35
    | n => n,
  t := fun x =>
    match x with
    | 22 => 24
    | 3 => 3
    | 4 => 4
    | 0 => 0
    | n => n,
  g := fun x =>
    have n := x;
    n }

theorem Try.laysNm220 : Go.Proofs.Lays2.n20 Go.Proofs.Try.prog Go.Proofs.Try.laysNm220_ren :=
{ mixed := by kernel_rfl,
  f20 := Eq.trans Go.Proofs.Try.func35 (congrArg some (by kernel_rfl)),
  t0 := Go.Proofs.Try.underlying0, a0 := Go.Proofs.Try.isAgg0, z0 := Go.Proofs.Try.sizeOf0,
  v0 := Go.Proofs.Try.zeroValue0, t3 := Go.Proofs.Try.underlying3, a3 := Go.Proofs.Try.isAgg3,
  z3 := Go.Proofs.Try.sizeOf3, v3 := Go.Proofs.Try.zeroValue3, t4 := Go.Proofs.Try.underlying4,
  a4 := Go.Proofs.Try.isAgg4, z4 := Go.Proofs.Try.sizeOf4, v4 := Go.Proofs.Try.zeroValue4,
  t22 := Go.Proofs.Try.underlying24, a22 := Go.Proofs.Try.isAgg24, z22 := Go.Proofs.Try.sizeOf24,
  v22 := Go.Proofs.Try.zeroValue24, i3 := by kernel_rfl }

open Go.RowKit Go.Lib Go.Sort in
theorem Try.slices_Compact_int (blk off cap : Nat) (zs : List Int) (w : World) (hH : Holds (Value.int .i64) w blk off zs.toArray) (hsz : zs.length ≤ 9223372036854775807) (hcap : zs.length ≤ cap) :
    Calls Try.prog 35 #[.slice (some ⟨blk, off, none⟩) zs.length cap] w fun e w' => e = .returned (.slice (some ⟨blk, off, none⟩) (Lib.compact zs).length cap) ∧ ∃ q, w' = putRow (Value.int .i64) (Sort.ahead w q) blk off (Lib.compact zs ++ List.replicate (zs.length - (Lib.compact zs).length) 0).toArray := Any.slices_Compact_int Try.laysNm220 blk off cap zs w hH hsz hcap
end Go.Proofs
