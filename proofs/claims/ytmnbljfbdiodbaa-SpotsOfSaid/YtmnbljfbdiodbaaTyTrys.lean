/- The types. -/
import Derived.Test.YtmnbljfbdiodbaaAbsU
import Derived.Test.YtmnbljfbdiodbaaProg
namespace Go.Abs
open Go.Proofs
set_option maxRecDepth 100000
theorem mix : Try.prog.follows .mixedOrders = true := by kernel_rfl
theorem ty3 : tiOf Try.prog 3 = some ⟨.int .i64, 1, 8, some [.int .i64 0]⟩ := by kernel_rfl
theorem ty4 : tiOf Try.prog 4 = some ⟨.bool, 1, 1, some [.bool false]⟩ := by kernel_rfl
theorem ty5 : tiOf Try.prog 5 = some ⟨.int .u8, 1, 1, some [.int .u8 0]⟩ := by kernel_rfl
theorem ty9 : tiOf Try.prog 9 = some ⟨.string, 1, 16, some [.str []]⟩ := by kernel_rfl
theorem ty22 : tiOf Try.prog 22 = some ⟨.slice 43, 1, 24, some [.nils]⟩ := by kernel_rfl
theorem ty23 : tiOf Try.prog 23 = some ⟨.slice 41, 1, 24, some [.nils]⟩ := by kernel_rfl
theorem ty24 : tiOf Try.prog 24 = some ⟨.slice 3, 1, 24, some [.nils]⟩ := by kernel_rfl
theorem ty25 : tiOf Try.prog 25 = some ⟨.slice 24, 1, 24, some [.nils]⟩ := by kernel_rfl
theorem ty27 : tiOf Try.prog 27 = some ⟨.struct #[{ name := "Sets", type := 23, offset := 0, embedded := false, tag := "", pkgPath := "", byteOffset := 0 }, { name := "Null", type := 4, offset := 1, embedded := false, tag := "", pkgPath := "", byteOffset := 24 }, { name := "First", type := 24, offset := 2, embedded := false, tag := "", pkgPath := "", byteOffset := 32 }, { name := "Last", type := 24, offset := 3, embedded := false, tag := "", pkgPath := "", byteOffset := 56 }, { name := "Follow", type := 25, offset := 4, embedded := false, tag := "", pkgPath := "", byteOffset := 80 }], 5, 104, some [.nils, .bool false, .nils, .nils, .nils]⟩ := by kernel_rfl
theorem ty28 : tiOf Try.prog 28 = some ⟨.int .i64, 1, 8, some [.int .i64 0]⟩ := by kernel_rfl
theorem ty38 : tiOf Try.prog 38 = some ⟨.slice 45, 1, 24, some [.nils]⟩ := by kernel_rfl
theorem ty39 : tiOf Try.prog 39 = some ⟨.int .u64, 1, 8, some [.int .u64 0]⟩ := by kernel_rfl
theorem ty40 : tiOf Try.prog 40 = some ⟨.array 4 39, 4, 32, some [.int .u64 0, .int .u64 0, .int .u64 0, .int .u64 0]⟩ := by kernel_rfl
theorem ty41 : tiOf Try.prog 41 = some ⟨.array 4 39, 4, 32, some [.int .u64 0, .int .u64 0, .int .u64 0, .int .u64 0]⟩ := by kernel_rfl
theorem ty43 : tiOf Try.prog 43 = some ⟨.struct #[{ name := "Op", type := 3, offset := 0, embedded := false, tag := "", pkgPath := "", byteOffset := 0 }, { name := "Set", type := 41, offset := 1, embedded := false, tag := "", pkgPath := "", byteOffset := 8 }], 5, 40, some [.int .i64 0, .int .u64 0, .int .u64 0, .int .u64 0, .int .u64 0]⟩ := by kernel_rfl
theorem ty45 : tiOf Try.prog 45 = some ⟨.struct #[{ name := "null", type := 4, offset := 0, embedded := false, tag := "", pkgPath := "topiary/spots", byteOffset := 0 }, { name := "first", type := 24, offset := 1, embedded := false, tag := "", pkgPath := "topiary/spots", byteOffset := 8 }, { name := "last", type := 24, offset := 2, embedded := false, tag := "", pkgPath := "topiary/spots", byteOffset := 32 }], 3, 56, some [.bool false, .nils, .nils]⟩ := by kernel_rfl
theorem ty58 : tiOf Try.prog 58 = some ⟨.slice 4, 1, 24, some [.nils]⟩ := by kernel_rfl
theorem ty70 : tiOf Try.prog 70 = some ⟨.int .u64, 1, 8, some [.int .u64 0]⟩ := by kernel_rfl
set_option linter.defProp false in
def evy := And.intro (And.intro (And.intro (And.intro (And.intro (@true_and) (@Option.map_none.{0, 0})) (And.intro (@Option.map_some.{0, 0}) (@List.length_cons.{0}))) (And.intro (And.intro (@List.length_nil.{0}) (@List.size_toArray.{0})) (And.intro (@List.getElem?_toArray.{0}) (@List.getElem?_cons_zero.{0})))) (And.intro (And.intro (And.intro (@List.getElem?_cons_succ.{0}) (@List.cons_append.{0})) (And.intro (@List.nil_append.{0}) (@List.append_nil.{0}))) (And.intro (And.intro (@List.set_cons_zero.{0}) (@List.set_cons_succ.{0})) (And.intro (@List.getD_cons_zero.{0}) (@List.getD_cons_succ.{0}))))) (And.intro (And.intro (And.intro (And.intro (@decide_not) (@ne_eq.{1})) (And.intro (@eq_self.{1}) (@splice_one))) (And.intro (And.intro (@map_ite) (@bind_ite)) (And.intro (@ite_ite) (@Option.bind_some.{0, 0})))) (And.intro (And.intro (And.intro (@Option.some.injEq.{0}) (@List.drop_zero.{0})) (And.intro (@List.take_succ_cons.{0}) (@List.take_zero.{0}))) (And.intro (And.intro (@List.drop_succ_cons.{0}) (@List.take_nil.{0})) (And.intro (@List.map_cons.{0, 0}) (And.intro (@List.map_nil.{0, 0}) (@List.length_append.{0}))))))
end Go.Abs
