/- The types. -/
import Derived.Test.YtnhghoonlmoinaaGreatAbsU
import Derived.Test.YtnhghoonlmoinaaGreatProg
namespace Go.Abs
set_option linter.unusedSectionVars false
variable [Kn]
open Go.Proofs
set_option maxRecDepth 100000
theorem mix : Tryz.prog.follows .mixedOrders = true := by kernel_rfl
theorem ty3 : tiOf Tryz.prog 3 = some ⟨.int .i64, 1, 8, some [.int .i64 0]⟩ := by kernel_rfl
theorem ty4 : tiOf Tryz.prog 4 = some ⟨.bool, 1, 1, some [.bool false]⟩ := by kernel_rfl
theorem ty5 : tiOf Tryz.prog 5 = some ⟨.int .u8, 1, 1, some [.int .u8 0]⟩ := by kernel_rfl
theorem ty9 : tiOf Tryz.prog 9 = some ⟨.string, 1, 16, some [.str []]⟩ := by kernel_rfl
theorem ty22 : tiOf Tryz.prog 22 = some ⟨.slice 61, 1, 24, some [.nils]⟩ := by kernel_rfl
theorem ty23 : tiOf Tryz.prog 23 = some ⟨.slice 9, 1, 24, some [.nils]⟩ := by kernel_rfl
theorem ty24 : tiOf Tryz.prog 24 = some ⟨.slice 127, 1, 24, some [.nils]⟩ := by kernel_rfl
theorem ty25 : tiOf Tryz.prog 25 = some ⟨.slice 63, 1, 24, some [.nils]⟩ := by kernel_rfl
theorem ty27 : tiOf Tryz.prog 27 = some ⟨.struct #[{ name := "Rules", type := 22, offset := 0, embedded := false, tag := "", pkgPath := "", byteOffset := 0 }, { name := "Nonts", type := 23, offset := 1, embedded := false, tag := "", pkgPath := "", byteOffset := 24 }, { name := "Levels", type := 24, offset := 2, embedded := false, tag := "", pkgPath := "", byteOffset := 48 }, { name := "Prods", type := 25, offset := 3, embedded := false, tag := "", pkgPath := "", byteOffset := 72 }, { name := "Start", type := 3, offset := 4, embedded := false, tag := "", pkgPath := "", byteOffset := 96 }], 5, 104, some [.nils, .nils, .nils, .nils, .int .i64 0]⟩ := by kernel_rfl
theorem ty28 : tiOf Tryz.prog 28 = some ⟨.slice 3, 1, 24, some [.nils]⟩ := by kernel_rfl
theorem ty31 : tiOf Tryz.prog 31 = some ⟨.int .i64, 1, 8, some [.int .i64 0]⟩ := by kernel_rfl
theorem ty43 : tiOf Tryz.prog 43 = some ⟨.slice 52, 1, 24, some [.nils]⟩ := by kernel_rfl
theorem ty52 : tiOf Tryz.prog 52 = some ⟨.struct #[{ name := "Prod", type := 3, offset := 0, embedded := false, tag := "", pkgPath := "", byteOffset := 0 }, { name := "Dot", type := 3, offset := 1, embedded := false, tag := "", pkgPath := "", byteOffset := 8 }], 2, 16, some [.int .i64 0, .int .i64 0]⟩ := by kernel_rfl
theorem ty59 : tiOf Tryz.prog 59 = some ⟨.slice 178, 1, 24, some [.nils]⟩ := by kernel_rfl
theorem ty61 : tiOf Tryz.prog 61 = some ⟨.struct #[{ name := "Name", type := 9, offset := 0, embedded := false, tag := "", pkgPath := "", byteOffset := 0 }, { name := "Re", type := 59, offset := 1, embedded := false, tag := "", pkgPath := "", byteOffset := 16 }, { name := "Skip", type := 4, offset := 2, embedded := false, tag := "", pkgPath := "", byteOffset := 40 }], 3, 48, some [.str [], .nils, .bool false]⟩ := by kernel_rfl
theorem ty63 : tiOf Tryz.prog 63 = some ⟨.struct #[{ name := "Left", type := 3, offset := 0, embedded := false, tag := "", pkgPath := "", byteOffset := 0 }, { name := "Right", type := 28, offset := 1, embedded := false, tag := "", pkgPath := "", byteOffset := 8 }, { name := "Prec", type := 3, offset := 2, embedded := false, tag := "", pkgPath := "", byteOffset := 32 }], 3, 40, some [.int .i64 0, .nils, .int .i64 0]⟩ := by kernel_rfl
theorem ty67 : tiOf Tryz.prog 67 = some ⟨.slice 70, 1, 24, some [.nils]⟩ := by kernel_rfl
theorem ty69 : tiOf Tryz.prog 69 = some ⟨.struct #[{ name := "g", type := 27, offset := 0, embedded := false, tag := "", pkgPath := "topiary/derive", byteOffset := 0 }, { name := "terms", type := 3, offset := 5, embedded := false, tag := "", pkgPath := "topiary/derive", byteOffset := 104 }, { name := "word", type := 28, offset := 6, embedded := false, tag := "", pkgPath := "topiary/derive", byteOffset := 112 }, { name := "ends", type := 67, offset := 7, embedded := false, tag := "", pkgPath := "topiary/derive", byteOffset := 136 }], 8, 160, some [.nils, .nils, .nils, .nils, .int .i64 0, .int .i64 0, .nils, .nils]⟩ := by kernel_rfl
theorem ty70 : tiOf Tryz.prog 70 = some ⟨.slice 72, 1, 24, some [.nils]⟩ := by kernel_rfl
theorem ty73 : tiOf Tryz.prog 73 = some ⟨.slice 4, 1, 24, some [.nils]⟩ := by kernel_rfl
theorem ty85 : tiOf Tryz.prog 85 = some ⟨.slice 28, 1, 24, some [.nils]⟩ := by kernel_rfl
theorem ty88 : tiOf Tryz.prog 88 = some ⟨.slice 138, 1, 24, some [.nils]⟩ := by kernel_rfl
theorem ty127 : tiOf Tryz.prog 127 = some ⟨.struct #[{ name := "Power", type := 3, offset := 0, embedded := false, tag := "", pkgPath := "", byteOffset := 0 }, { name := "Side", type := 3, offset := 1, embedded := false, tag := "", pkgPath := "", byteOffset := 8 }], 2, 16, some [.int .i64 0, .int .i64 0]⟩ := by kernel_rfl
theorem ty136 : tiOf Tryz.prog 136 = some ⟨.array 3 135, 3, 24, some [.nil .nilFunc, .nil .nilFunc, .nil .nilFunc]⟩ := by kernel_rfl
theorem ty138 : tiOf Tryz.prog 138 = some ⟨.struct #[{ name := "Kind", type := 3, offset := 0, embedded := false, tag := "", pkgPath := "", byteOffset := 0 }, { name := "At", type := 3, offset := 1, embedded := false, tag := "", pkgPath := "", byteOffset := 8 }, { name := "Text", type := 9, offset := 2, embedded := false, tag := "", pkgPath := "", byteOffset := 16 }], 3, 32, some [.int .i64 0, .int .i64 0, .str []]⟩ := by kernel_rfl
theorem ty160 : tiOf Tryz.prog 160 = some ⟨.int .u64, 1, 8, some [.int .u64 0]⟩ := by kernel_rfl
theorem ty174 : tiOf Tryz.prog 174 = some ⟨.int .u64, 1, 8, some [.int .u64 0]⟩ := by kernel_rfl
theorem ty176 : tiOf Tryz.prog 176 = some ⟨.array 4 174, 4, 32, some [.int .u64 0, .int .u64 0, .int .u64 0, .int .u64 0]⟩ := by kernel_rfl
theorem ty178 : tiOf Tryz.prog 178 = some ⟨.struct #[{ name := "Op", type := 3, offset := 0, embedded := false, tag := "", pkgPath := "", byteOffset := 0 }, { name := "Set", type := 176, offset := 1, embedded := false, tag := "", pkgPath := "", byteOffset := 8 }], 5, 40, some [.int .i64 0, .int .u64 0, .int .u64 0, .int .u64 0, .int .u64 0]⟩ := by kernel_rfl
set_option linter.defProp false in
def evy := And.intro (And.intro (And.intro (And.intro (And.intro (@true_and) (@Option.map_none.{0, 0})) (And.intro (@Option.map_some.{0, 0}) (@List.length_cons.{0}))) (And.intro (And.intro (@List.length_nil.{0}) (@List.size_toArray.{0})) (And.intro (@List.getElem?_toArray.{0}) (@List.getElem?_cons_zero.{0})))) (And.intro (And.intro (And.intro (@List.getElem?_cons_succ.{0}) (@List.cons_append.{0})) (And.intro (@List.nil_append.{0}) (@List.append_nil.{0}))) (And.intro (And.intro (@List.set_cons_zero.{0}) (@List.set_cons_succ.{0})) (And.intro (@List.getD_cons_zero.{0}) (@List.getD_cons_succ.{0}))))) (And.intro (And.intro (And.intro (And.intro (@decide_not) (@ne_eq.{1})) (And.intro (@eq_self.{1}) (@splice_one))) (And.intro (And.intro (@map_ite) (@bind_ite)) (And.intro (@ite_ite) (@Option.bind_some.{0, 0})))) (And.intro (And.intro (And.intro (@Option.some.injEq.{0}) (@List.drop_zero.{0})) (And.intro (@List.take_succ_cons.{0}) (@List.take_zero.{0}))) (And.intro (And.intro (@List.drop_succ_cons.{0}) (@List.take_nil.{0})) (And.intro (@List.map_cons.{0, 0}) (And.intro (@List.map_nil.{0, 0}) (@List.length_append.{0}))))))
end Go.Abs
