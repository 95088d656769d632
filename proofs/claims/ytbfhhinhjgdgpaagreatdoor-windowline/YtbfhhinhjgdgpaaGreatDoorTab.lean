/-
  A part of the proof of windowLine_holds: see the text that holds it. No conditions of its own.
-/
import Derived.Test.YtbfhhinhjgdgpaaGreatDoorLoop
import Derived.Test.YtbfhhinhjgdgpaaGreatDoorProg
namespace Go.Yb
open Go Go.Proofs
theorem mixed : Tryz.prog.follows .mixedOrders = true := by kernel_rfl
theorem fa_34_0 : FieldA Tryz.prog 34 0 0 := fieldA Tryz.underlying34 rfl rfl Tryz.sizeOf2 (by decide)
theorem fa_34_1 : FieldA Tryz.prog 34 1 1 := fieldA Tryz.underlying34 rfl rfl Tryz.sizeOf2 (by decide)
theorem fa_37_0 : FieldA Tryz.prog 37 0 0 := fieldA Tryz.underlying37 rfl rfl Tryz.sizeOf2 (by decide)
theorem fa_37_1 : FieldA Tryz.prog 37 1 1 := fieldA Tryz.underlying37 rfl rfl Tryz.sizeOf2 (by decide)
theorem fa_37_2 : FieldA Tryz.prog 37 2 2 := fieldA Tryz.underlying37 rfl rfl Tryz.sizeOf2 (by decide)
theorem fa_37_3 : FieldA Tryz.prog 37 3 3 := fieldA Tryz.underlying37 rfl rfl Tryz.sizeOf2 (by decide)
theorem fa_42_0 : FieldA Tryz.prog 42 0 0 := fieldA Tryz.underlying42 rfl rfl Tryz.sizeOf2 (by decide)
theorem fa_42_1 : FieldA Tryz.prog 42 1 1 := fieldA Tryz.underlying42 rfl rfl Tryz.sizeOf2 (by decide)
theorem fa_42_2 : FieldA Tryz.prog 42 2 2 := fieldA Tryz.underlying42 rfl rfl Tryz.sizeOf2 (by decide)
theorem fa_53_0 : FieldA Tryz.prog 53 0 0 := fieldA Tryz.underlying53 rfl rfl Tryz.sizeOf3 (by decide)
theorem fa_53_1 : FieldA Tryz.prog 53 1 1 := fieldA Tryz.underlying53 rfl rfl Tryz.sizeOf50 (by decide)
theorem fa_53_2 : FieldA Tryz.prog 53 2 2 := fieldA Tryz.underlying53 rfl rfl Tryz.sizeOf37 (by decide)
theorem fa_53_3 : FieldA Tryz.prog 53 3 6 := fieldA Tryz.underlying53 rfl rfl Tryz.sizeOf51 (by decide)
theorem fa_53_4 : FieldA Tryz.prog 53 4 7 := fieldA Tryz.underlying53 rfl rfl Tryz.sizeOf2 (by decide)
theorem fa_82_0 : FieldA Tryz.prog 82 0 0 := fieldA Tryz.underlying82 rfl rfl Tryz.sizeOf37 (by decide)
theorem fa_85_0 : FieldA Tryz.prog 85 0 0 := fieldA Tryz.underlying85 rfl rfl Tryz.sizeOf2 (by decide)
theorem fa_85_1 : FieldA Tryz.prog 85 1 1 := fieldA Tryz.underlying85 rfl rfl Tryz.sizeOf83 (by decide)
theorem fa_96_0 : FieldA Tryz.prog 96 0 0 := fieldA Tryz.underlying96 rfl rfl Tryz.sizeOf2 (by decide)
theorem fa_96_1 : FieldA Tryz.prog 96 1 1 := fieldA Tryz.underlying96 rfl rfl Tryz.sizeOf2 (by decide)
theorem fa_96_2 : FieldA Tryz.prog 96 2 2 := fieldA Tryz.underlying96 rfl rfl Tryz.sizeOf3 (by decide)
theorem fa_105_0 : FieldA Tryz.prog 105 0 0 := fieldA Tryz.underlying105 rfl rfl Tryz.sizeOf53 (by decide)
theorem fa_123_0 : FieldA Tryz.prog 123 0 0 := fieldA Tryz.underlying123 rfl rfl Tryz.sizeOf120 (by decide)
theorem fa_123_1 : FieldA Tryz.prog 123 1 1 := fieldA Tryz.underlying123 rfl rfl Tryz.sizeOf121 (by decide)
theorem fa_127_0 : FieldA Tryz.prog 127 0 0 := fieldA Tryz.underlying127 rfl rfl Tryz.sizeOf22 (by decide)
theorem fa_129_0 : FieldA Tryz.prog 129 0 0 := fieldA Tryz.underlying129 rfl rfl Tryz.sizeOf127 (by decide)
theorem fa_129_1 : FieldA Tryz.prog 129 1 1 := fieldA Tryz.underlying129 rfl rfl Tryz.sizeOf2 (by decide)
theorem fa_129_2 : FieldA Tryz.prog 129 2 2 := fieldA Tryz.underlying129 rfl rfl Tryz.sizeOf121 (by decide)
theorem fa_146_0 : FieldA Tryz.prog 146 0 0 := fieldA Tryz.underlying146 rfl rfl Tryz.sizeOf2 (by decide)
theorem fa_146_1 : FieldA Tryz.prog 146 1 1 := fieldA Tryz.underlying146 rfl rfl Tryz.sizeOf2 (by decide)
theorem fa_194_0 : FieldA Tryz.prog 194 0 0 := fieldA Tryz.underlying194 rfl rfl Tryz.sizeOf2 (by decide)
theorem fa_194_1 : FieldA Tryz.prog 194 1 1 := fieldA Tryz.underlying194 rfl rfl Tryz.sizeOf2 (by decide)
theorem fa_256_0 : FieldA Tryz.prog 256 0 0 := fieldA Tryz.underlying256 rfl rfl Tryz.sizeOf2 (by decide)
theorem fa_256_1 : FieldA Tryz.prog 256 1 1 := fieldA Tryz.underlying256 rfl rfl Tryz.sizeOf2 (by decide)
theorem fa_259_0 : FieldA Tryz.prog 259 0 0 := fieldA Tryz.underlying259 rfl rfl Tryz.sizeOf256 (by decide)
theorem fa_259_1 : FieldA Tryz.prog 259 1 2 := fieldA Tryz.underlying259 rfl rfl Tryz.sizeOf257 (by decide)
theorem fa_259_2 : FieldA Tryz.prog 259 2 6 := fieldA Tryz.underlying259 rfl rfl Tryz.sizeOf3 (by decide)
theorem fa_270_0 : FieldA Tryz.prog 270 0 0 := fieldA Tryz.underlying270 rfl rfl Tryz.sizeOf268 (by decide)
theorem fa_270_1 : FieldA Tryz.prog 270 1 4 := fieldA Tryz.underlying270 rfl rfl Tryz.sizeOf38 (by decide)
theorem fa_296_0 : FieldA Tryz.prog 296 0 0 := fieldA Tryz.underlying296 rfl rfl Tryz.sizeOf96 (by decide)
theorem fa_298_0 : FieldA Tryz.prog 298 0 0 := fieldA Tryz.underlying298 rfl rfl Tryz.sizeOf296 (by decide)
theorem fa_298_1 : FieldA Tryz.prog 298 1 3 := fieldA Tryz.underlying298 rfl rfl Tryz.sizeOf50 (by decide)
theorem fa_314_0 : FieldA Tryz.prog 314 0 0 := fieldA Tryz.underlying314 rfl rfl Tryz.sizeOf236 (by decide)
theorem fa_320_0 : FieldA Tryz.prog 320 0 0 := fieldA Tryz.underlying320 rfl rfl Tryz.sizeOf194 (by decide)
theorem fa_320_1 : FieldA Tryz.prog 320 1 2 := fieldA Tryz.underlying320 rfl rfl Tryz.sizeOf4 (by decide)
theorem st_34 : StructT Tryz.prog 34 [.int .i64 0, .int .i64 0] [(0, 1), (1, 1)] := ⟨Tryz.zeroValue34, _, Tryz.underlying34, fun w => by simp [Tryz.sizeOf2]⟩
theorem st_37 : StructT Tryz.prog 37 [.int .i64 0, .int .i64 0, .int .i64 0, .int .i64 0] [(0, 1), (1, 1), (2, 1), (3, 1)] := ⟨Tryz.zeroValue37, _, Tryz.underlying37, fun w => by simp [Tryz.sizeOf2]⟩
theorem st_42 : StructT Tryz.prog 42 [.int .i64 0, .int .i64 0, .int .i64 0] [(0, 1), (1, 1), (2, 1)] := ⟨Tryz.zeroValue42, _, Tryz.underlying42, fun w => by simp [Tryz.sizeOf2]⟩
theorem st_53 : StructT Tryz.prog 53 [.int .i64 0, .slice none 0 0, .int .i64 0, .int .i64 0, .int .i64 0, .int .i64 0, .slice none 0 0, .int .i64 0] [(0, 1), (1, 1), (2, 4), (6, 1), (7, 1)] := ⟨Tryz.zeroValue53, _, Tryz.underlying53, fun w => by simp [Tryz.sizeOf2, Tryz.sizeOf3, Tryz.sizeOf37, Tryz.sizeOf50, Tryz.sizeOf51]⟩
theorem st_82 : StructT Tryz.prog 82 [.int .i64 0, .int .i64 0, .int .i64 0, .int .i64 0] [(0, 4)] := ⟨Tryz.zeroValue82, _, Tryz.underlying82, fun w => by simp [Tryz.sizeOf37]⟩
theorem st_85 : StructT Tryz.prog 85 [.int .i64 0, .int .u64 0] [(0, 1), (1, 1)] := ⟨Tryz.zeroValue85, _, Tryz.underlying85, fun w => by simp [Tryz.sizeOf2, Tryz.sizeOf83]⟩
theorem st_96 : StructT Tryz.prog 96 [.int .i64 0, .int .i64 0, .int .i64 0] [(0, 1), (1, 1), (2, 1)] := ⟨Tryz.zeroValue96, _, Tryz.underlying96, fun w => by simp [Tryz.sizeOf2, Tryz.sizeOf3]⟩
theorem st_105 : StructT Tryz.prog 105 [.int .i64 0, .slice none 0 0, .int .i64 0, .int .i64 0, .int .i64 0, .int .i64 0, .slice none 0 0, .int .i64 0] [(0, 8)] := ⟨Tryz.zeroValue105, _, Tryz.underlying105, fun w => by simp [Tryz.sizeOf53]⟩
theorem st_123 : StructT Tryz.prog 123 [.nilFunc, .nilFunc] [(0, 1), (1, 1)] := ⟨Tryz.zeroValue123, _, Tryz.underlying123, fun w => by simp [Tryz.sizeOf120, Tryz.sizeOf121]⟩
theorem st_127 : StructT Tryz.prog 127 [.slice none 0 0] [(0, 1)] := ⟨Tryz.zeroValue127, _, Tryz.underlying127, fun w => by simp [Tryz.sizeOf22]⟩
theorem st_129 : StructT Tryz.prog 129 [.slice none 0 0, .int .i64 0, .nilFunc] [(0, 1), (1, 1), (2, 1)] := ⟨Tryz.zeroValue129, _, Tryz.underlying129, fun w => by simp [Tryz.sizeOf121, Tryz.sizeOf127, Tryz.sizeOf2]⟩
theorem st_146 : StructT Tryz.prog 146 [.int .i64 0, .int .i64 0] [(0, 1), (1, 1)] := ⟨Tryz.zeroValue146, _, Tryz.underlying146, fun w => by simp [Tryz.sizeOf2]⟩
theorem st_174 : StructT Tryz.prog 174 [.nilFunc, .nilFunc] [(0, 1), (1, 1)] := ⟨Tryz.zeroValue174, _, Tryz.underlying174, fun w => by simp [Tryz.sizeOf171, Tryz.sizeOf172]⟩
theorem st_194 : StructT Tryz.prog 194 [.int .i64 0, .int .i64 0] [(0, 1), (1, 1)] := ⟨Tryz.zeroValue194, _, Tryz.underlying194, fun w => by simp [Tryz.sizeOf2]⟩
theorem st_256 : StructT Tryz.prog 256 [.int .i64 0, .int .i64 0] [(0, 1), (1, 1)] := ⟨Tryz.zeroValue256, _, Tryz.underlying256, fun w => by simp [Tryz.sizeOf2]⟩
theorem st_259 : StructT Tryz.prog 259 [.int .i64 0, .int .i64 0, .int .i64 0, .int .i64 0, .int .i64 0, .int .i64 0, .int .i64 0] [(0, 2), (2, 4), (6, 1)] := ⟨Tryz.zeroValue259, _, Tryz.underlying259, fun w => by simp [Tryz.sizeOf256, Tryz.sizeOf257, Tryz.sizeOf3]⟩
theorem st_270 : StructT Tryz.prog 270 [.int .i64 0, .int .i64 0, .int .i64 0, .int .i64 0, .slice none 0 0] [(0, 4), (4, 1)] := ⟨Tryz.zeroValue270, _, Tryz.underlying270, fun w => by simp [Tryz.sizeOf268, Tryz.sizeOf38]⟩
theorem st_314 : StructT Tryz.prog 314 [.slice none 0 0] [(0, 1)] := ⟨Tryz.zeroValue314, _, Tryz.underlying314, fun w => by simp [Tryz.sizeOf236]⟩
theorem ab_124 : ArrB Tryz.prog 124 [.nilFunc, .nilFunc, .nilFunc, .nilFunc, .nilFunc, .nilFunc, .nilFunc, .nilFunc, .nilFunc, .nilFunc] [(0, 2), (2, 2), (4, 2), (6, 2), (8, 2)] := ⟨Tryz.zeroValue124, 5, 123, 2, ⟨Tryz.underlying124, Tryz.sizeOf123⟩, rfl⟩
theorem ab_175 : ArrB Tryz.prog 175 [.nilFunc, .nilFunc, .nilFunc, .nilFunc, .nilFunc, .nilFunc, .nilFunc, .nilFunc, .nilFunc, .nilFunc] [(0, 2), (2, 2), (4, 2), (6, 2), (8, 2)] := ⟨Tryz.zeroValue175, 5, 174, 2, ⟨Tryz.underlying175, Tryz.sizeOf174⟩, rfl⟩
theorem ab_268 : ArrB Tryz.prog 268 [.int .i64 0, .int .i64 0, .int .i64 0, .int .i64 0] [(0, 2), (2, 2)] := ⟨Tryz.zeroValue268, 2, 146, 2, ⟨Tryz.underlying268, Tryz.sizeOf146⟩, rfl⟩
theorem ab_354 : ArrB Tryz.prog 354 [.int .i64 0, .int .i64 0] [(0, 1), (1, 1)] := ⟨Tryz.zeroValue354, 2, 2, 1, ⟨Tryz.underlying354, Tryz.sizeOf2⟩, rfl⟩
theorem ab_403 : ArrB Tryz.prog 403 [.int .i64 0, .int .i64 0] [(0, 1), (1, 1)] := ⟨Tryz.zeroValue403, 2, 2, 1, ⟨Tryz.underlying403, Tryz.sizeOf2⟩, rfl⟩
theorem rw_22 : RowT Tryz.prog 22 34 2 16 := ⟨Tryz.underlying22, by decide, by kernel_rfl⟩
theorem rw_25 : RowT Tryz.prog 25 53 8 96 := ⟨Tryz.underlying25, by decide, by kernel_rfl⟩
theorem rw_38 : RowT Tryz.prog 38 42 3 24 := ⟨Tryz.underlying38, by decide, by kernel_rfl⟩
theorem rw_50 : RowT Tryz.prog 50 96 3 24 := ⟨Tryz.underlying50, by decide, by kernel_rfl⟩
theorem rw_51 : RowT Tryz.prog 51 2 1 8 := ⟨Tryz.underlying51, by decide, by kernel_rfl⟩
theorem rw_70 : RowT Tryz.prog 70 3 1 8 := ⟨Tryz.underlying70, by decide, by kernel_rfl⟩
theorem rw_236 : RowT Tryz.prog 236 5 1 1 := ⟨Tryz.underlying236, by decide, by kernel_rfl⟩
theorem rw_394 : RowT Tryz.prog 394 83 1 8 := ⟨Tryz.underlying394, by decide, by kernel_rfl⟩
theorem rw_399 : RowT Tryz.prog 399 194 2 16 := ⟨Tryz.underlying399, by decide, by kernel_rfl⟩
theorem rw_407 : RowT Tryz.prog 407 403 2 16 := ⟨Tryz.underlying407, by decide, by kernel_rfl⟩
end Go.Yb
