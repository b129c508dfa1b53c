/- The library's contracts of slices.Sort, slices.Compact and bits.Len, laid at this program. -/
import Derived.Shelf.Lay
import Derived.Shelf.Sort.Plain
import Derived.Shelf.Small.Bits
import Derived.Ground.Names2Prog
import Derived.Shelf.Slices.CompactI
import Derived.Test.YtlfocagdjjgmmaaGreatProg
namespace Go.Proofs
open Go.Shelf
def Tryz.lays125_ren : Go.Shelf.Ren :=
{
  f := fun x =>
    match x with
    | 125 => 128
    | 128 => 147
    | 129 => 148
    | n => n,
  t := fun x =>
    match x with
    | 46 => 174
    | 3 => 3
    | 51 => 99
    | 53 => 156
    | 4 => 4
    | 5 => 5
    | 9 => 9
    | n => n,
  g := fun x =>
    have n := x;
    n }

theorem Tryz.lays125 : Go.Proofs.Lays.n125 Go.Proofs.Tryz.prog Go.Proofs.Tryz.lays125_ren :=
{ mixed := by kernel_rfl,
  f125 := Eq.trans Go.Proofs.Tryz.func128 (congrArg some (by kernel_rfl)),
  f128 := Eq.trans Go.Proofs.Tryz.func147 (congrArg some (by kernel_rfl)),
  f129 := Eq.trans Go.Proofs.Tryz.func148 (congrArg some (by kernel_rfl)),
  t3 := Go.Proofs.Tryz.underlying3, a3 := Go.Proofs.Tryz.isAgg3, z3 := Go.Proofs.Tryz.sizeOf3,
  v3 := Go.Proofs.Tryz.zeroValue3, t4 := Go.Proofs.Tryz.underlying4, a4 := Go.Proofs.Tryz.isAgg4,
  z4 := Go.Proofs.Tryz.sizeOf4, v4 := Go.Proofs.Tryz.zeroValue4, t5 := Go.Proofs.Tryz.underlying5,
  a5 := Go.Proofs.Tryz.isAgg5, z5 := Go.Proofs.Tryz.sizeOf5, v5 := Go.Proofs.Tryz.zeroValue5,
  t9 := Go.Proofs.Tryz.underlying9, a9 := Go.Proofs.Tryz.isAgg9, z9 := Go.Proofs.Tryz.sizeOf9,
  v9 := Go.Proofs.Tryz.zeroValue9, t46 := Go.Proofs.Tryz.underlying174, a46 := Go.Proofs.Tryz.isAgg174,
  z46 := Go.Proofs.Tryz.sizeOf174, v46 := Go.Proofs.Tryz.zeroValue174, t51 := Go.Proofs.Tryz.underlying99,
  a51 := Go.Proofs.Tryz.isAgg99, z51 := Go.Proofs.Tryz.sizeOf99, v51 := Go.Proofs.Tryz.zeroValue99,
  t53 := Go.Proofs.Tryz.underlying156, a53 := Go.Proofs.Tryz.isAgg156, z53 := Go.Proofs.Tryz.sizeOf156,
  v53 := Go.Proofs.Tryz.zeroValue156 }

theorem Tryz.bits_Len (x : Int) (w : World) (h0 : 0 ≤ x) (h1 : x ≤ 18446744073709551615) :
    Calls Tryz.prog 128 #[.int .u64 x] w fun e w' => e = .returned (.int .i64 (Lib.bitLen x.toNat)) ∧ w' = w := Any.bits_Len Tryz.lays125 x w h0 h1
def Tryz.lays189_ren : Go.Shelf.Ren :=
{
  f := fun x =>
    match x with
    | 189 => 116
    | 125 => 128
    | 257 => 132
    | 128 => 147
    | 129 => 148
    | 294 => 150
    | 295 => 151
    | 296 => 152
    | 297 => 153
    | 298 => 154
    | 299 => 155
    | 216 => 156
    | 300 => 157
    | 301 => 158
    | 328 => 172
    | 329 => 168
    | 330 => 169
    | 331 => 173
    | 332 => 174
    | 215 => 149
    | 343 => 181
    | n => n,
  t := fun x =>
    match x with
    | 28 => 28
    | 3 => 3
    | 46 => 174
    | 0 => 0
    | 51 => 99
    | 53 => 156
    | 4 => 4
    | 183 => 187
    | 182 => 186
    | 131 => 191
    | 5 => 5
    | 9 => 9
    | 218 => 206
    | 222 => 210
    | 228 => 217
    | 229 => 218
    | n => n,
  g := fun x =>
    have n := x;
    n }

theorem Tryz.lays189 : Go.Proofs.Lays.n189 Go.Proofs.Tryz.prog Go.Proofs.Tryz.lays189_ren :=
{ mixed := by kernel_rfl,
  f125 := Eq.trans Go.Proofs.Tryz.func128 (congrArg some (by kernel_rfl)),
  f128 := Eq.trans Go.Proofs.Tryz.func147 (congrArg some (by kernel_rfl)),
  f129 := Eq.trans Go.Proofs.Tryz.func148 (congrArg some (by kernel_rfl)),
  f189 := Eq.trans Go.Proofs.Tryz.func116 (congrArg some (by kernel_rfl)),
  f215 := Eq.trans Go.Proofs.Tryz.func149 (congrArg some (by kernel_rfl)),
  f216 := Eq.trans Go.Proofs.Tryz.func156 (congrArg some (by kernel_rfl)),
  f257 := Eq.trans Go.Proofs.Tryz.func132 (congrArg some (by kernel_rfl)),
  f294 := Eq.trans Go.Proofs.Tryz.func150 (congrArg some (by kernel_rfl)),
  f295 := Eq.trans Go.Proofs.Tryz.func151 (congrArg some (by kernel_rfl)),
  f296 := Eq.trans Go.Proofs.Tryz.func152 (congrArg some (by kernel_rfl)),
  f297 := Eq.trans Go.Proofs.Tryz.func153 (congrArg some (by kernel_rfl)),
  f298 := Eq.trans Go.Proofs.Tryz.func154 (congrArg some (by kernel_rfl)),
  f299 := Eq.trans Go.Proofs.Tryz.func155 (congrArg some (by kernel_rfl)),
  f300 := Eq.trans Go.Proofs.Tryz.func157 (congrArg some (by kernel_rfl)),
  f301 := Eq.trans Go.Proofs.Tryz.func158 (congrArg some (by kernel_rfl)),
  f328 := Eq.trans Go.Proofs.Tryz.func172 (congrArg some (by kernel_rfl)),
  f329 := Eq.trans Go.Proofs.Tryz.func168 (congrArg some (by kernel_rfl)),
  f330 := Eq.trans Go.Proofs.Tryz.func169 (congrArg some (by kernel_rfl)),
  f331 := Eq.trans Go.Proofs.Tryz.func173 (congrArg some (by kernel_rfl)),
  f332 := Eq.trans Go.Proofs.Tryz.func174 (congrArg some (by kernel_rfl)),
  f343 := Eq.trans Go.Proofs.Tryz.func181 (congrArg some (by kernel_rfl)),
  t0 := Go.Proofs.Tryz.underlying0, a0 := Go.Proofs.Tryz.isAgg0, z0 := Go.Proofs.Tryz.sizeOf0,
  v0 := Go.Proofs.Tryz.zeroValue0, t3 := Go.Proofs.Tryz.underlying3, a3 := Go.Proofs.Tryz.isAgg3,
  z3 := Go.Proofs.Tryz.sizeOf3, v3 := Go.Proofs.Tryz.zeroValue3, t4 := Go.Proofs.Tryz.underlying4,
  a4 := Go.Proofs.Tryz.isAgg4, z4 := Go.Proofs.Tryz.sizeOf4, v4 := Go.Proofs.Tryz.zeroValue4,
  t5 := Go.Proofs.Tryz.underlying5, a5 := Go.Proofs.Tryz.isAgg5, z5 := Go.Proofs.Tryz.sizeOf5,
  v5 := Go.Proofs.Tryz.zeroValue5, t9 := Go.Proofs.Tryz.underlying9, a9 := Go.Proofs.Tryz.isAgg9,
  z9 := Go.Proofs.Tryz.sizeOf9, v9 := Go.Proofs.Tryz.zeroValue9, t28 := Go.Proofs.Tryz.underlying28,
  a28 := Go.Proofs.Tryz.isAgg28, z28 := Go.Proofs.Tryz.sizeOf28, v28 := Go.Proofs.Tryz.zeroValue28,
  t46 := Go.Proofs.Tryz.underlying174, a46 := Go.Proofs.Tryz.isAgg174, z46 := Go.Proofs.Tryz.sizeOf174,
  v46 := Go.Proofs.Tryz.zeroValue174, t51 := Go.Proofs.Tryz.underlying99, a51 := Go.Proofs.Tryz.isAgg99,
  z51 := Go.Proofs.Tryz.sizeOf99, v51 := Go.Proofs.Tryz.zeroValue99, t53 := Go.Proofs.Tryz.underlying156,
  a53 := Go.Proofs.Tryz.isAgg156, z53 := Go.Proofs.Tryz.sizeOf156, v53 := Go.Proofs.Tryz.zeroValue156,
  t131 := Go.Proofs.Tryz.underlying191, a131 := Go.Proofs.Tryz.isAgg191, z131 := Go.Proofs.Tryz.sizeOf191,
  v131 := Go.Proofs.Tryz.zeroValue191, t182 := Go.Proofs.Tryz.underlying186, a182 := Go.Proofs.Tryz.isAgg186,
  z182 := Go.Proofs.Tryz.sizeOf186, v182 := Go.Proofs.Tryz.zeroValue186, t183 := Go.Proofs.Tryz.underlying187,
  a183 := Go.Proofs.Tryz.isAgg187, z183 := Go.Proofs.Tryz.sizeOf187, v183 := Go.Proofs.Tryz.zeroValue187,
  t218 := Go.Proofs.Tryz.underlying206, a218 := Go.Proofs.Tryz.isAgg206, z218 := Go.Proofs.Tryz.sizeOf206,
  v218 := Go.Proofs.Tryz.zeroValue206, t222 := Go.Proofs.Tryz.underlying210, a222 := Go.Proofs.Tryz.isAgg210,
  z222 := Go.Proofs.Tryz.sizeOf210, v222 := Go.Proofs.Tryz.zeroValue210, t228 := Go.Proofs.Tryz.underlying217,
  a228 := Go.Proofs.Tryz.isAgg217, z228 := Go.Proofs.Tryz.sizeOf217, v228 := Go.Proofs.Tryz.zeroValue217,
  t229 := Go.Proofs.Tryz.underlying218, a229 := Go.Proofs.Tryz.isAgg218, z229 := Go.Proofs.Tryz.sizeOf218,
  v229 := Go.Proofs.Tryz.zeroValue218 }

open Go.Sort Go.RowKit in
theorem Tryz.slices_Sort_int (blk off cap : Nat) (zs : List Int) (w : World) (hH : Holds (Value.int .i64) w blk off zs.toArray) (hblk : blk < w.heap.size) (hsz : zs.length < 4611686018427387904) :
    Calls Tryz.prog 116 #[.slice (some ⟨blk, off, none⟩) zs.length cap] w fun e w' =>
      e = .returned (.tuple #[]) ∧ ∃ n os, w' = grow (putRow (Value.int .i64) (Sort.ahead w n) blk off (zs.mergeSort fun x y => decide (x ≤ y)).toArray) os := Any.slices_Sort_int Tryz.lays189 blk off cap zs w hH hblk hsz
def Tryz.laysNm220_ren : Go.Shelf.Ren :=
{
  f := fun x =>
    match x with
    | 20 => 118
    | n => n,
  t := fun x =>
    match x with
    | 22 => 28
    | 3 => 3
    | 4 => 4
    | 0 => 0
    | n => n,
  g := fun x =>
    have n := x;
    n }

theorem Tryz.laysNm220 : Go.Proofs.Lays2.n20 Go.Proofs.Tryz.prog Go.Proofs.Tryz.laysNm220_ren :=
{ mixed := by kernel_rfl,
  f20 := Eq.trans Go.Proofs.Tryz.func118 (congrArg some (by kernel_rfl)),
  t0 := Go.Proofs.Tryz.underlying0, a0 := Go.Proofs.Tryz.isAgg0, z0 := Go.Proofs.Tryz.sizeOf0,
  v0 := Go.Proofs.Tryz.zeroValue0, t3 := Go.Proofs.Tryz.underlying3, a3 := Go.Proofs.Tryz.isAgg3,
  z3 := Go.Proofs.Tryz.sizeOf3, v3 := Go.Proofs.Tryz.zeroValue3, t4 := Go.Proofs.Tryz.underlying4,
  a4 := Go.Proofs.Tryz.isAgg4, z4 := Go.Proofs.Tryz.sizeOf4, v4 := Go.Proofs.Tryz.zeroValue4,
  t22 := Go.Proofs.Tryz.underlying28, a22 := Go.Proofs.Tryz.isAgg28, z22 := Go.Proofs.Tryz.sizeOf28,
  v22 := Go.Proofs.Tryz.zeroValue28, i3 := by kernel_rfl }

open Go.RowKit Go.Lib Go.Sort in
theorem Tryz.slices_Compact_int (blk off cap : Nat) (zs : List Int) (w : World) (hH : Holds (Value.int .i64) w blk off zs.toArray) (hsz : zs.length ≤ 9223372036854775807) (hcap : zs.length ≤ cap) :
    Calls Tryz.prog 118 #[.slice (some ⟨blk, off, none⟩) zs.length cap] w fun e w' => e = .returned (.slice (some ⟨blk, off, none⟩) (Lib.compact zs).length cap) ∧ ∃ q, w' = putRow (Value.int .i64) (Sort.ahead w q) blk off (Lib.compact zs ++ List.replicate (zs.length - (Lib.compact zs).length) 0).toArray := Any.slices_Compact_int Tryz.laysNm220 blk off cap zs w hH hsz hcap
end Go.Proofs
