/- The library's contracts of slices.Sort, slices.Compact and bits.Len, laid at this program. -/
import Derived.Shelf.Lay
import Derived.Shelf.Sort.Plain
import Derived.Shelf.Small.Bits
import Derived.Ground.Names2Prog
import Derived.Shelf.Slices.CompactI
import Derived.Test.YtnhghoonlmoinaaGreatProg
namespace Go.Proofs
open Go.Shelf
def Tryz.lays125_ren : Go.Shelf.Ren :=
{
  f := fun x =>
    match x with
    | 125 => 106
    | 128 => 132
    | 129 => 133
    | n => n,
  t := fun x =>
    match x with
    | 46 => 160
    | 3 => 3
    | 51 => 103
    | 53 => 174
    | 4 => 4
    | 5 => 5
    | 9 => 9
    | n => n,
  g := fun x =>
    have n := x;
    n }

theorem Tryz.lays125 : Go.Proofs.Lays.n125 Go.Proofs.Tryz.prog Go.Proofs.Tryz.lays125_ren :=
{ mixed := by kernel_rfl,
  f125 := Eq.trans Go.Proofs.Tryz.func106 (congrArg some (by kernel_rfl)),
  f128 := Eq.trans Go.Proofs.Tryz.func132 (congrArg some (by kernel_rfl)),
  f129 := Eq.trans Go.Proofs.Tryz.func133 (congrArg some (by kernel_rfl)),
  t3 := Go.Proofs.Tryz.underlying3, a3 := Go.Proofs.Tryz.isAgg3, z3 := Go.Proofs.Tryz.sizeOf3,
  v3 := Go.Proofs.Tryz.zeroValue3, t4 := Go.Proofs.Tryz.underlying4, a4 := Go.Proofs.Tryz.isAgg4,
  z4 := Go.Proofs.Tryz.sizeOf4, v4 := Go.Proofs.Tryz.zeroValue4, t5 := Go.Proofs.Tryz.underlying5,
  a5 := Go.Proofs.Tryz.isAgg5, z5 := Go.Proofs.Tryz.sizeOf5, v5 := Go.Proofs.Tryz.zeroValue5,
  t9 := Go.Proofs.Tryz.underlying9, a9 := Go.Proofs.Tryz.isAgg9, z9 := Go.Proofs.Tryz.sizeOf9,
  v9 := Go.Proofs.Tryz.zeroValue9, t46 := Go.Proofs.Tryz.underlying160, a46 := Go.Proofs.Tryz.isAgg160,
  z46 := Go.Proofs.Tryz.sizeOf160, v46 := Go.Proofs.Tryz.zeroValue160, t51 := Go.Proofs.Tryz.underlying103,
  a51 := Go.Proofs.Tryz.isAgg103, z51 := Go.Proofs.Tryz.sizeOf103, v51 := Go.Proofs.Tryz.zeroValue103,
  t53 := Go.Proofs.Tryz.underlying174, a53 := Go.Proofs.Tryz.isAgg174, z53 := Go.Proofs.Tryz.sizeOf174,
  v53 := Go.Proofs.Tryz.zeroValue174 }

theorem Tryz.bits_Len (x : Int) (w : World) (h0 : 0 ≤ x) (h1 : x ≤ 18446744073709551615) :
    Calls Tryz.prog 106 #[.int .u64 x] w fun e w' => e = .returned (.int .i64 (Lib.bitLen x.toNat)) ∧ w' = w := Any.bits_Len Tryz.lays125 x w h0 h1
def Tryz.lays189_ren : Go.Shelf.Ren :=
{
  f := fun x =>
    match x with
    | 189 => 85
    | 125 => 106
    | 257 => 112
    | 128 => 132
    | 129 => 133
    | 294 => 138
    | 295 => 139
    | 296 => 140
    | 297 => 141
    | 298 => 142
    | 299 => 143
    | 216 => 144
    | 300 => 145
    | 301 => 146
    | 328 => 159
    | 329 => 154
    | 330 => 155
    | 331 => 160
    | 332 => 161
    | 215 => 134
    | 343 => 171
    | n => n,
  t := fun x =>
    match x with
    | 28 => 28
    | 3 => 3
    | 46 => 160
    | 0 => 0
    | 51 => 103
    | 53 => 174
    | 4 => 4
    | 183 => 181
    | 182 => 180
    | 131 => 185
    | 5 => 5
    | 9 => 9
    | 218 => 202
    | 222 => 206
    | 228 => 216
    | 229 => 217
    | n => n,
  g := fun x =>
    have n := x;
    n }

theorem Tryz.lays189 : Go.Proofs.Lays.n189 Go.Proofs.Tryz.prog Go.Proofs.Tryz.lays189_ren :=
{ mixed := by kernel_rfl,
  f125 := Eq.trans Go.Proofs.Tryz.func106 (congrArg some (by kernel_rfl)),
  f128 := Eq.trans Go.Proofs.Tryz.func132 (congrArg some (by kernel_rfl)),
  f129 := Eq.trans Go.Proofs.Tryz.func133 (congrArg some (by kernel_rfl)),
  f189 := Eq.trans Go.Proofs.Tryz.func85 (congrArg some (by kernel_rfl)),
  f215 := Eq.trans Go.Proofs.Tryz.func134 (congrArg some (by kernel_rfl)),
  f216 := Eq.trans Go.Proofs.Tryz.func144 (congrArg some (by kernel_rfl)),
  f257 := Eq.trans Go.Proofs.Tryz.func112 (congrArg some (by kernel_rfl)),
  f294 := Eq.trans Go.Proofs.Tryz.func138 (congrArg some (by kernel_rfl)),
  f295 := Eq.trans Go.Proofs.Tryz.func139 (congrArg some (by kernel_rfl)),
  f296 := Eq.trans Go.Proofs.Tryz.func140 (congrArg some (by kernel_rfl)),
  f297 := Eq.trans Go.Proofs.Tryz.func141 (congrArg some (by kernel_rfl)),
  f298 := Eq.trans Go.Proofs.Tryz.func142 (congrArg some (by kernel_rfl)),
  f299 := Eq.trans Go.Proofs.Tryz.func143 (congrArg some (by kernel_rfl)),
  f300 := Eq.trans Go.Proofs.Tryz.func145 (congrArg some (by kernel_rfl)),
  f301 := Eq.trans Go.Proofs.Tryz.func146 (congrArg some (by kernel_rfl)),
  f328 := Eq.trans Go.Proofs.Tryz.func159 (congrArg some (by kernel_rfl)),
  f329 := Eq.trans Go.Proofs.Tryz.func154 (congrArg some (by kernel_rfl)),
  f330 := Eq.trans Go.Proofs.Tryz.func155 (congrArg some (by kernel_rfl)),
  f331 := Eq.trans Go.Proofs.Tryz.func160 (congrArg some (by kernel_rfl)),
  f332 := Eq.trans Go.Proofs.Tryz.func161 (congrArg some (by kernel_rfl)),
  f343 := Eq.trans Go.Proofs.Tryz.func171 (congrArg some (by kernel_rfl)),
  t0 := Go.Proofs.Tryz.underlying0, a0 := Go.Proofs.Tryz.isAgg0, z0 := Go.Proofs.Tryz.sizeOf0,
  v0 := Go.Proofs.Tryz.zeroValue0, t3 := Go.Proofs.Tryz.underlying3, a3 := Go.Proofs.Tryz.isAgg3,
  z3 := Go.Proofs.Tryz.sizeOf3, v3 := Go.Proofs.Tryz.zeroValue3, t4 := Go.Proofs.Tryz.underlying4,
  a4 := Go.Proofs.Tryz.isAgg4, z4 := Go.Proofs.Tryz.sizeOf4, v4 := Go.Proofs.Tryz.zeroValue4,
  t5 := Go.Proofs.Tryz.underlying5, a5 := Go.Proofs.Tryz.isAgg5, z5 := Go.Proofs.Tryz.sizeOf5,
  v5 := Go.Proofs.Tryz.zeroValue5, t9 := Go.Proofs.Tryz.underlying9, a9 := Go.Proofs.Tryz.isAgg9,
  z9 := Go.Proofs.Tryz.sizeOf9, v9 := Go.Proofs.Tryz.zeroValue9, t28 := Go.Proofs.Tryz.underlying28,
  a28 := Go.Proofs.Tryz.isAgg28, z28 := Go.Proofs.Tryz.sizeOf28, v28 := Go.Proofs.Tryz.zeroValue28,
  t46 := Go.Proofs.Tryz.underlying160, a46 := Go.Proofs.Tryz.isAgg160, z46 := Go.Proofs.Tryz.sizeOf160,
  v46 := Go.Proofs.Tryz.zeroValue160, t51 := Go.Proofs.Tryz.underlying103, a51 := Go.Proofs.Tryz.isAgg103,
  z51 := Go.Proofs.Tryz.sizeOf103, v51 := Go.Proofs.Tryz.zeroValue103, t53 := Go.Proofs.Tryz.underlying174,
  a53 := Go.Proofs.Tryz.isAgg174, z53 := Go.Proofs.Tryz.sizeOf174, v53 := Go.Proofs.Tryz.zeroValue174,
  t131 := Go.Proofs.Tryz.underlying185, a131 := Go.Proofs.Tryz.isAgg185, z131 := Go.Proofs.Tryz.sizeOf185,
  v131 := Go.Proofs.Tryz.zeroValue185, t182 := Go.Proofs.Tryz.underlying180, a182 := Go.Proofs.Tryz.isAgg180,
  z182 := Go.Proofs.Tryz.sizeOf180, v182 := Go.Proofs.Tryz.zeroValue180, t183 := Go.Proofs.Tryz.underlying181,
  a183 := Go.Proofs.Tryz.isAgg181, z183 := Go.Proofs.Tryz.sizeOf181, v183 := Go.Proofs.Tryz.zeroValue181,
  t218 := Go.Proofs.Tryz.underlying202, a218 := Go.Proofs.Tryz.isAgg202, z218 := Go.Proofs.Tryz.sizeOf202,
  v218 := Go.Proofs.Tryz.zeroValue202, t222 := Go.Proofs.Tryz.underlying206, a222 := Go.Proofs.Tryz.isAgg206,
  z222 := Go.Proofs.Tryz.sizeOf206, v222 := Go.Proofs.Tryz.zeroValue206, t228 := Go.Proofs.Tryz.underlying216,
  a228 := Go.Proofs.Tryz.isAgg216, z228 := Go.Proofs.Tryz.sizeOf216, v228 := Go.Proofs.Tryz.zeroValue216,
  t229 := Go.Proofs.Tryz.underlying217, a229 := Go.Proofs.Tryz.isAgg217, z229 := Go.Proofs.Tryz.sizeOf217,
  v229 := Go.Proofs.Tryz.zeroValue217 }

open Go.Sort Go.RowKit in
theorem Tryz.slices_Sort_int (blk off cap : Nat) (zs : List Int) (w : World) (hH : Holds (Value.int .i64) w blk off zs.toArray) (hblk : blk < w.heap.size) (hsz : zs.length < 4611686018427387904) :
    Calls Tryz.prog 85 #[.slice (some ⟨blk, off, none⟩) zs.length cap] w fun e w' =>
      e = .returned (.tuple #[]) ∧ ∃ n os, w' = grow (putRow (Value.int .i64) (Sort.ahead w n) blk off (zs.mergeSort fun x y => decide (x ≤ y)).toArray) os := Any.slices_Sort_int Tryz.lays189 blk off cap zs w hH hblk hsz
end Go.Proofs
