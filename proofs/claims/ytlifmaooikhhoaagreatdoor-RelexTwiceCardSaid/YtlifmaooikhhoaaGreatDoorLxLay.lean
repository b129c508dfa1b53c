/- The library's contracts of strings.Builder, laid at this program. -/
import Derived.Shelf.Lay
import Derived.Shelf.Strings.Builder1
import Derived.Shelf.Strings.Builder2
import Derived.Test.YtlifmaooikhhoaaGreatDoorProg
namespace Go.Proofs
open Go.Shelf
def Tryz.lays169_ren : Go.Shelf.Ren :=
{
  f := fun x =>
    match x with
    | 169 => 82
    | n => n,
  t := fun x =>
    match x with
    | 70 => 149
    | 9 => 9
    | 0 => 0
    | 72 => 151
    | 37 => 99
    | 127 => 168
    | 3 => 3
    | 5 => 5
    | n => n,
  g := fun x =>
    have n := x;
    n }

theorem Tryz.lays169 : Go.Proofs.Lays.n169 Go.Proofs.Tryz.prog Go.Proofs.Tryz.lays169_ren :=
{ mixed := by kernel_rfl,
  f169 := Eq.trans Go.Proofs.Tryz.func82 (congrArg some (by kernel_rfl)),
  t0 := Go.Proofs.Tryz.underlying0, a0 := Go.Proofs.Tryz.isAgg0, z0 := Go.Proofs.Tryz.sizeOf0,
  v0 := Go.Proofs.Tryz.zeroValue0, t3 := Go.Proofs.Tryz.underlying3, a3 := Go.Proofs.Tryz.isAgg3,
  z3 := Go.Proofs.Tryz.sizeOf3, v3 := Go.Proofs.Tryz.zeroValue3, t9 := Go.Proofs.Tryz.underlying9,
  a9 := Go.Proofs.Tryz.isAgg9, z9 := Go.Proofs.Tryz.sizeOf9, v9 := Go.Proofs.Tryz.zeroValue9,
  t37 := Go.Proofs.Tryz.underlying99, a37 := Go.Proofs.Tryz.isAgg99, z37 := Go.Proofs.Tryz.sizeOf99,
  v37 := Go.Proofs.Tryz.zeroValue99, t70 := Go.Proofs.Tryz.underlying149, a70 := Go.Proofs.Tryz.isAgg149,
  z70 := Go.Proofs.Tryz.sizeOf149, v70 := Go.Proofs.Tryz.zeroValue149, t72 := Go.Proofs.Tryz.underlying151,
  a72 := Go.Proofs.Tryz.isAgg151, z72 := Go.Proofs.Tryz.sizeOf151, v72 := Go.Proofs.Tryz.zeroValue151,
  t127 := Go.Proofs.Tryz.underlying168, a127 := Go.Proofs.Tryz.isAgg168, z127 := Go.Proofs.Tryz.sizeOf168,
  v127 := Go.Proofs.Tryz.zeroValue168 }

theorem Tryz.Builder_Extra_169 : Builder.Extra Tryz.prog Tryz.lays169_ren where
  sizeBuilder := by kernel_rfl
  liesBuilder := by kernel_rfl
  t5 := Tryz.underlying5
  a5 := Tryz.isAgg5
  z5 := Tryz.sizeOf5
  v5 := Tryz.zeroValue5
  infoByte := by kernel_rfl
  cellsByte := by kernel_rfl
  sizeByte := by kernel_rfl
  neB5 := by decide
open Go.RowKit in
theorem Tryz.Builder_String_any (B b : Nat) (l : List UInt8) (w : World) (h : Lib.IsBuilder 151 5 B b (Lib.byteCells l) w) (hBw : B ≤ w.heap.size) :
    Calls Tryz.prog 82 #[.pointer (some ⟨b, 0, none⟩)] w fun e w' => e = .returned (.string ⟨l.toArray⟩) ∧ Below B w w' := Any.Builder_String_any Tryz.lays169 Tryz.Builder_Extra_169 B b l w h hBw
end Go.Proofs
