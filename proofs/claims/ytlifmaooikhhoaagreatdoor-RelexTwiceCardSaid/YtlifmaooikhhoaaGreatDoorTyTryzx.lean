/- The types. -/
import Derived.Test.YtlifmaooikhhoaaGreatDoorAbsU
import Derived.Test.YtlifmaooikhhoaaGreatDoorProg
namespace Go.Abs
open Go.Proofs
set_option maxRecDepth 100000
theorem mix : Tryz.prog.follows .mixedOrders = true := by kernel_rfl
theorem ty3 : tiOf Tryz.prog 3 = some ⟨.int .i64, 1, 8, some [.int .i64 0]⟩ := by kernel_rfl
theorem ty4 : tiOf Tryz.prog 4 = some ⟨.bool, 1, 1, some [.bool false]⟩ := by kernel_rfl
theorem ty5 : tiOf Tryz.prog 5 = some ⟨.int .u8, 1, 1, some [.int .u8 0]⟩ := by kernel_rfl
theorem ty9 : tiOf Tryz.prog 9 = some ⟨.string, 1, 16, some [.str []]⟩ := by kernel_rfl
theorem ty22 : tiOf Tryz.prog 22 = some ⟨.slice 23, 1, 24, some [.nils]⟩ := by kernel_rfl
theorem ty23 : tiOf Tryz.prog 23 = some ⟨.slice 3, 1, 24, some [.nils]⟩ := by kernel_rfl
theorem ty25 : tiOf Tryz.prog 25 = some ⟨.struct #[{ name := "Next", type := 22, offset := 0, embedded := false, tag := "", pkgPath := "", byteOffset := 0 }, { name := "Accept", type := 23, offset := 1, embedded := false, tag := "", pkgPath := "", byteOffset := 24 }], 2, 48, some [.nils, .nils]⟩ := by kernel_rfl
theorem ty31 : tiOf Tryz.prog 31 = some ⟨.slice 35, 1, 24, some [.nils]⟩ := by kernel_rfl
theorem ty35 : tiOf Tryz.prog 35 = some ⟨.struct #[{ name := "Rule", type := 3, offset := 0, embedded := false, tag := "", pkgPath := "", byteOffset := 0 }, { name := "At", type := 3, offset := 1, embedded := false, tag := "", pkgPath := "", byteOffset := 8 }, { name := "Len", type := 3, offset := 2, embedded := false, tag := "", pkgPath := "", byteOffset := 16 }], 3, 24, some [.int .i64 0, .int .i64 0, .int .i64 0]⟩ := by kernel_rfl
theorem ty38 : tiOf Tryz.prog 38 = some ⟨.struct #[{ name := "Tokens", type := 31, offset := 0, embedded := false, tag := "", pkgPath := "", byteOffset := 0 }, { name := "Seen", type := 23, offset := 1, embedded := false, tag := "", pkgPath := "", byteOffset := 24 }, { name := "At", type := 3, offset := 2, embedded := false, tag := "", pkgPath := "", byteOffset := 48 }], 3, 56, some [.nils, .nils, .int .i64 0]⟩ := by kernel_rfl
theorem ty43 : tiOf Tryz.prog 43 = some ⟨.int .i64, 1, 8, some [.int .i64 0]⟩ := by kernel_rfl
theorem ty47 : tiOf Tryz.prog 47 = some ⟨.struct #[{ name := "Rule", type := 3, offset := 0, embedded := false, tag := "", pkgPath := "", byteOffset := 0 }, { name := "Len", type := 3, offset := 1, embedded := false, tag := "", pkgPath := "", byteOffset := 8 }, { name := "Seen", type := 3, offset := 2, embedded := false, tag := "", pkgPath := "", byteOffset := 16 }], 3, 24, some [.int .i64 0, .int .i64 0, .int .i64 0]⟩ := by kernel_rfl
theorem ty52 : tiOf Tryz.prog 52 = some ⟨.struct #[{ name := "At", type := 3, offset := 0, embedded := false, tag := "", pkgPath := "", byteOffset := 0 }, { name := "Len", type := 3, offset := 1, embedded := false, tag := "", pkgPath := "", byteOffset := 8 }, { name := "Text", type := 9, offset := 2, embedded := false, tag := "", pkgPath := "", byteOffset := 16 }], 3, 32, some [.int .i64 0, .int .i64 0, .str []]⟩ := by kernel_rfl
theorem ty55 : tiOf Tryz.prog 55 = some ⟨.struct #[{ name := "Tokens", type := 31, offset := 0, embedded := false, tag := "", pkgPath := "", byteOffset := 0 }, { name := "Seen", type := 23, offset := 1, embedded := false, tag := "", pkgPath := "", byteOffset := 24 }, { name := "At", type := 3, offset := 2, embedded := false, tag := "", pkgPath := "", byteOffset := 48 }], 3, 56, some [.nils, .nils, .int .i64 0]⟩ := by kernel_rfl
theorem ty60 : tiOf Tryz.prog 60 = some ⟨.struct #[{ name := "X", type := 38, offset := 0, embedded := false, tag := "", pkgPath := "", byteOffset := 0 }, { name := "N", type := 3, offset := 3, embedded := false, tag := "", pkgPath := "", byteOffset := 56 }, { name := "E", type := 3, offset := 4, embedded := false, tag := "", pkgPath := "", byteOffset := 64 }], 5, 72, some [.nils, .nils, .int .i64 0, .int .i64 0, .int .i64 0]⟩ := by kernel_rfl
theorem ty63 : tiOf Tryz.prog 63 = some ⟨.struct #[{ name := "Tokens", type := 31, offset := 0, embedded := false, tag := "", pkgPath := "", byteOffset := 0 }, { name := "Seen", type := 23, offset := 1, embedded := false, tag := "", pkgPath := "", byteOffset := 24 }, { name := "At", type := 3, offset := 2, embedded := false, tag := "", pkgPath := "", byteOffset := 48 }, { name := "E", type := 52, offset := 3, embedded := false, tag := "", pkgPath := "", byteOffset := 56 }], 6, 88, some [.nils, .nils, .int .i64 0, .int .i64 0, .int .i64 0, .str []]⟩ := by kernel_rfl
theorem ty65 : tiOf Tryz.prog 65 = some ⟨.array 2 52, 6, 64, some [.int .i64 0, .int .i64 0, .str [], .int .i64 0, .int .i64 0, .str []]⟩ := by kernel_rfl
theorem ty67 : tiOf Tryz.prog 67 = some ⟨.struct #[{ name := "S", type := 9, offset := 0, embedded := false, tag := "", pkgPath := "", byteOffset := 0 }, { name := "N", type := 3, offset := 1, embedded := false, tag := "", pkgPath := "", byteOffset := 16 }, { name := "E", type := 3, offset := 2, embedded := false, tag := "", pkgPath := "", byteOffset := 24 }], 3, 32, some [.str [], .int .i64 0, .int .i64 0]⟩ := by kernel_rfl
theorem ty69 : tiOf Tryz.prog 69 = some ⟨.slice 52, 1, 24, some [.nils]⟩ := by kernel_rfl
theorem ty77 : tiOf Tryz.prog 77 = some ⟨.slice 135, 1, 24, some [.nils]⟩ := by kernel_rfl
theorem ty82 : tiOf Tryz.prog 82 = some ⟨.slice 77, 1, 24, some [.nils]⟩ := by kernel_rfl
theorem ty94 : tiOf Tryz.prog 94 = some ⟨.map 3 3, 1, 8, some [.nil (.map none)]⟩ := by kernel_rfl
theorem ty99 : tiOf Tryz.prog 99 = some ⟨.slice 5, 1, 24, some [.nils]⟩ := by kernel_rfl
theorem ty127 : tiOf Tryz.prog 127 = some ⟨.slice 9, 1, 24, some [.nils]⟩ := by kernel_rfl
set_option linter.defProp false in
def evy := And.intro (And.intro (And.intro (And.intro (And.intro (@true_and) (@Option.map_none.{0, 0})) (And.intro (@Option.map_some.{0, 0}) (@List.length_cons.{0}))) (And.intro (And.intro (@List.length_nil.{0}) (@List.size_toArray.{0})) (And.intro (@List.getElem?_toArray.{0}) (@List.getElem?_cons_zero.{0})))) (And.intro (And.intro (And.intro (@List.getElem?_cons_succ.{0}) (@List.cons_append.{0})) (And.intro (@List.nil_append.{0}) (@List.append_nil.{0}))) (And.intro (And.intro (@List.set_cons_zero.{0}) (@List.set_cons_succ.{0})) (And.intro (@List.getD_cons_zero.{0}) (@List.getD_cons_succ.{0}))))) (And.intro (And.intro (And.intro (And.intro (@decide_not) (@ne_eq.{1})) (And.intro (@eq_self.{1}) (@splice_one))) (And.intro (And.intro (@map_ite) (@bind_ite)) (And.intro (@ite_ite) (@Option.bind_some.{0, 0})))) (And.intro (And.intro (And.intro (@Option.some.injEq.{0}) (@List.drop_zero.{0})) (And.intro (@List.take_succ_cons.{0}) (@List.take_zero.{0}))) (And.intro (And.intro (@List.drop_succ_cons.{0}) (@List.take_nil.{0})) (And.intro (@List.map_cons.{0, 0}) (And.intro (@List.map_nil.{0, 0}) (@List.length_append.{0}))))))
end Go.Abs
