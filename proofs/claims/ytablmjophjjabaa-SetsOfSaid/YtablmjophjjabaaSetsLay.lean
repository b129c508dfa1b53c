/- The library's contract of slices.Sort, laid at this program. -/
import Derived.Shelf.Lay
import Derived.Shelf.Sort.Plain
import Derived.Shelf.Slices.CompactI
import Derived.Shelf.Small.Bits
import Derived.Test.YtablmjophjjabaaProg
namespace Go.Proofs
open Go.Shelf
def Try.lays189_ren : Go.Shelf.Ren :=
{
  f := fun x =>
    match x with
    | 189 => 28
    | 125 => 35
    | 257 => 34
    | 128 => 51
    | 129 => 52
    | 294 => 42
    | 295 => 43
    | 296 => 44
    | 297 => 45
    | 298 => 46
    | 299 => 47
    | 216 => 48
    | 300 => 49
    | 301 => 50
    | 328 => 55
    | 329 => 56
    | 330 => 57
    | 331 => 58
    | 332 => 59
    | 215 => 41
    | 343 => 60
    | n => n,
  t := fun x =>
    match x with
    | 28 => 22
    | 3 => 3
    | 46 => 37
    | 0 => 0
    | 51 => 54
    | 53 => 56
    | 4 => 4
    | 183 => 47
    | 182 => 46
    | 131 => 42
    | 5 => 5
    | 9 => 9
    | 218 => 58
    | 222 => 62
    | 228 => 64
    | 229 => 65
    | n => n,
  g := fun x =>
    have n := x;
    n }

theorem Try.lays189 : Go.Proofs.Lays.n189 Go.Proofs.Try.prog Go.Proofs.Try.lays189_ren :=
{ mixed := by kernel_rfl,
  f125 := Eq.trans Go.Proofs.Try.func35 (congrArg some (by kernel_rfl)),
  f128 := Eq.trans Go.Proofs.Try.func51 (congrArg some (by kernel_rfl)),
  f129 := Eq.trans Go.Proofs.Try.func52 (congrArg some (by kernel_rfl)),
  f189 := Eq.trans Go.Proofs.Try.func28 (congrArg some (by kernel_rfl)),
  f215 := Eq.trans Go.Proofs.Try.func41 (congrArg some (by kernel_rfl)),
  f216 := Eq.trans Go.Proofs.Try.func48 (congrArg some (by kernel_rfl)),
  f257 := Eq.trans Go.Proofs.Try.func34 (congrArg some (by kernel_rfl)),
  f294 := Eq.trans Go.Proofs.Try.func42 (congrArg some (by kernel_rfl)),
  f295 := Eq.trans Go.Proofs.Try.func43 (congrArg some (by kernel_rfl)),
  f296 := Eq.trans Go.Proofs.Try.func44 (congrArg some (by kernel_rfl)),
  f297 := Eq.trans Go.Proofs.Try.func45 (congrArg some (by kernel_rfl)),
  f298 := Eq.trans Go.Proofs.Try.func46 (congrArg some (by kernel_rfl)),
  f299 := Eq.trans Go.Proofs.Try.func47 (congrArg some (by kernel_rfl)),
  f300 := Eq.trans Go.Proofs.Try.func49 (congrArg some (by kernel_rfl)),
  f301 := Eq.trans Go.Proofs.Try.func50 (congrArg some (by kernel_rfl)),
  f328 := Eq.trans Go.Proofs.Try.func55 (congrArg some (by kernel_rfl)),
  f329 := Eq.trans Go.Proofs.Try.func56 (congrArg some (by kernel_rfl)),
  f330 := Eq.trans Go.Proofs.Try.func57 (congrArg some (by kernel_rfl)),
  f331 := Eq.trans Go.Proofs.Try.func58 (congrArg some (by kernel_rfl)),
  f332 := Eq.trans Go.Proofs.Try.func59 (congrArg some (by kernel_rfl)),
  f343 := Eq.trans Go.Proofs.Try.func60 (congrArg some (by kernel_rfl)),
  t0 := Go.Proofs.Try.underlying0, a0 := Go.Proofs.Try.isAgg0, z0 := Go.Proofs.Try.sizeOf0,
  v0 := Go.Proofs.Try.zeroValue0, t3 := Go.Proofs.Try.underlying3, a3 := Go.Proofs.Try.isAgg3,
  z3 := Go.Proofs.Try.sizeOf3, v3 := Go.Proofs.Try.zeroValue3, t4 := Go.Proofs.Try.underlying4,
  a4 := Go.Proofs.Try.isAgg4, z4 := Go.Proofs.Try.sizeOf4, v4 := Go.Proofs.Try.zeroValue4,
  t5 := Go.Proofs.Try.underlying5, a5 := Go.Proofs.Try.isAgg5, z5 := Go.Proofs.Try.sizeOf5,
  v5 := Go.Proofs.Try.zeroValue5, t9 := Go.Proofs.Try.underlying9, a9 := Go.Proofs.Try.isAgg9,
  z9 := Go.Proofs.Try.sizeOf9, v9 := Go.Proofs.Try.zeroValue9, t28 := Go.Proofs.Try.underlying22,
  a28 := Go.Proofs.Try.isAgg22, z28 := Go.Proofs.Try.sizeOf22, v28 := Go.Proofs.Try.zeroValue22,
  t46 := Go.Proofs.Try.underlying37, a46 := Go.Proofs.Try.isAgg37, z46 := Go.Proofs.Try.sizeOf37,
  v46 := Go.Proofs.Try.zeroValue37, t51 := Go.Proofs.Try.underlying54, a51 := Go.Proofs.Try.isAgg54,
  z51 := Go.Proofs.Try.sizeOf54, v51 := Go.Proofs.Try.zeroValue54, t53 := Go.Proofs.Try.underlying56,
  a53 := Go.Proofs.Try.isAgg56, z53 := Go.Proofs.Try.sizeOf56, v53 := Go.Proofs.Try.zeroValue56,
  t131 := Go.Proofs.Try.underlying42, a131 := Go.Proofs.Try.isAgg42, z131 := Go.Proofs.Try.sizeOf42,
  v131 := Go.Proofs.Try.zeroValue42, t182 := Go.Proofs.Try.underlying46, a182 := Go.Proofs.Try.isAgg46,
  z182 := Go.Proofs.Try.sizeOf46, v182 := Go.Proofs.Try.zeroValue46, t183 := Go.Proofs.Try.underlying47,
  a183 := Go.Proofs.Try.isAgg47, z183 := Go.Proofs.Try.sizeOf47, v183 := Go.Proofs.Try.zeroValue47,
  t218 := Go.Proofs.Try.underlying58, a218 := Go.Proofs.Try.isAgg58, z218 := Go.Proofs.Try.sizeOf58,
  v218 := Go.Proofs.Try.zeroValue58, t222 := Go.Proofs.Try.underlying62, a222 := Go.Proofs.Try.isAgg62,
  z222 := Go.Proofs.Try.sizeOf62, v222 := Go.Proofs.Try.zeroValue62, t228 := Go.Proofs.Try.underlying64,
  a228 := Go.Proofs.Try.isAgg64, z228 := Go.Proofs.Try.sizeOf64, v228 := Go.Proofs.Try.zeroValue64,
  t229 := Go.Proofs.Try.underlying65, a229 := Go.Proofs.Try.isAgg65, z229 := Go.Proofs.Try.sizeOf65,
  v229 := Go.Proofs.Try.zeroValue65 }

open Go.Sort Go.RowKit in
theorem Try.slices_Sort_int (blk off cap : Nat) (zs : List Int) (w : World) (hH : Holds (Value.int .i64) w blk off zs.toArray) (hblk : blk < w.heap.size) (hsz : zs.length < 4611686018427387904) :
    Calls Try.prog 28 #[.slice (some ⟨blk, off, none⟩) zs.length cap] w fun e w' =>
      e = .returned (.tuple #[]) ∧ ∃ n os, w' = grow (putRow (Value.int .i64) (Sort.ahead w n) blk off (zs.mergeSort fun x y => decide (x ≤ y)).toArray) os := Any.slices_Sort_int Try.lays189 blk off cap zs w hH hblk hsz
def Try.lays125_ren : Go.Shelf.Ren :=
{
  f := fun x =>
    match x with
    | 125 => 35
    | 128 => 51
    | 129 => 52
    | n => n,
  t := fun x =>
    match x with
    | 46 => 37
    | 3 => 3
    | 51 => 54
    | 53 => 56
    | 4 => 4
    | 5 => 5
    | 9 => 9
    | n => n,
  g := fun x =>
    have n := x;
    n }

theorem Try.lays125 : Go.Proofs.Lays.n125 Go.Proofs.Try.prog Go.Proofs.Try.lays125_ren :=
{ mixed := by kernel_rfl,
  f125 := Eq.trans Go.Proofs.Try.func35 (congrArg some (by kernel_rfl)),
  f128 := Eq.trans Go.Proofs.Try.func51 (congrArg some (by kernel_rfl)),
  f129 := Eq.trans Go.Proofs.Try.func52 (congrArg some (by kernel_rfl)),
  t3 := Go.Proofs.Try.underlying3, a3 := Go.Proofs.Try.isAgg3, z3 := Go.Proofs.Try.sizeOf3,
  v3 := Go.Proofs.Try.zeroValue3, t4 := Go.Proofs.Try.underlying4, a4 := Go.Proofs.Try.isAgg4,
  z4 := Go.Proofs.Try.sizeOf4, v4 := Go.Proofs.Try.zeroValue4, t5 := Go.Proofs.Try.underlying5,
  a5 := Go.Proofs.Try.isAgg5, z5 := Go.Proofs.Try.sizeOf5, v5 := Go.Proofs.Try.zeroValue5,
  t9 := Go.Proofs.Try.underlying9, a9 := Go.Proofs.Try.isAgg9, z9 := Go.Proofs.Try.sizeOf9,
  v9 := Go.Proofs.Try.zeroValue9, t46 := Go.Proofs.Try.underlying37, a46 := Go.Proofs.Try.isAgg37,
  z46 := Go.Proofs.Try.sizeOf37, v46 := Go.Proofs.Try.zeroValue37, t51 := Go.Proofs.Try.underlying54,
  a51 := Go.Proofs.Try.isAgg54, z51 := Go.Proofs.Try.sizeOf54, v51 := Go.Proofs.Try.zeroValue54,
  t53 := Go.Proofs.Try.underlying56, a53 := Go.Proofs.Try.isAgg56, z53 := Go.Proofs.Try.sizeOf56,
  v53 := Go.Proofs.Try.zeroValue56 }

theorem Try.bits_Len (x : Int) (w : World) (h0 : 0 ≤ x) (h1 : x ≤ 18446744073709551615) :
    Calls Try.prog 35 #[.int .u64 x] w fun e w' => e = .returned (.int .i64 (Lib.bitLen x.toNat)) ∧ w' = w := Any.bits_Len Try.lays125 x w h0 h1
def Try.laysNm220_ren : Go.Shelf.Ren :=
{
  f := fun x =>
    match x with
    | 20 => 29
    | n => n,
  t := fun x =>
    match x with
    | 22 => 22
    | 3 => 3
    | 4 => 4
    | 0 => 0
    | n => n,
  g := fun x =>
    have n := x;
    n }

theorem Try.laysNm220 : Go.Proofs.Lays2.n20 Go.Proofs.Try.prog Go.Proofs.Try.laysNm220_ren :=
{ mixed := by kernel_rfl,
  f20 := Eq.trans Go.Proofs.Try.func29 (congrArg some (by kernel_rfl)),
  t0 := Go.Proofs.Try.underlying0, a0 := Go.Proofs.Try.isAgg0, z0 := Go.Proofs.Try.sizeOf0,
  v0 := Go.Proofs.Try.zeroValue0, t3 := Go.Proofs.Try.underlying3, a3 := Go.Proofs.Try.isAgg3,
  z3 := Go.Proofs.Try.sizeOf3, v3 := Go.Proofs.Try.zeroValue3, t4 := Go.Proofs.Try.underlying4,
  a4 := Go.Proofs.Try.isAgg4, z4 := Go.Proofs.Try.sizeOf4, v4 := Go.Proofs.Try.zeroValue4,
  t22 := Go.Proofs.Try.underlying22, a22 := Go.Proofs.Try.isAgg22, z22 := Go.Proofs.Try.sizeOf22,
  v22 := Go.Proofs.Try.zeroValue22, i3 := by kernel_rfl }

open Go.Sort Go.RowKit in
theorem Try.slices_Compact_int (blk off cap : Nat) (zs : List Int) (w : World) (hH : Holds (Value.int .i64) w blk off zs.toArray) (hsz : zs.length ≤ 9223372036854775807) (hcap : zs.length ≤ cap) :
    Calls Try.prog 29 #[.slice (some ⟨blk, off, none⟩) zs.length cap] w fun e w' => e = .returned (.slice (some ⟨blk, off, none⟩) (Lib.compact zs).length cap) ∧ ∃ q, w' = putRow (Value.int .i64) (Sort.ahead w q) blk off (Lib.compact zs ++ List.replicate (zs.length - (Lib.compact zs).length) 0).toArray := Any.slices_Compact_int Try.laysNm220 blk off cap zs w hH hsz hcap
end Go.Proofs
