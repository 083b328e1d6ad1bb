import Derived.Test.YtaiagocjnnfkmaaAmM
import Derived.Test.YtaiagocjnnfkmaaProg
namespace Go.Proofs.Ytaiagocjnnfkmaa.Amu.Ty
open Go Go.AM Go.Proofs
set_option maxRecDepth 10000
theorem ty3 : tKind Try.prog 3 = some (.int .i64) ∧ tSize Try.prog 3 = some 1 ∧ tAgg Try.prog 3 = some false ∧ tZero Try.prog 3 = some (.int .i64 0) := ⟨by kernel_rfl, by kernel_rfl, by kernel_rfl, by kernel_rfl⟩
theorem ty4 : tKind Try.prog 4 = some (.bool) ∧ tSize Try.prog 4 = some 1 ∧ tAgg Try.prog 4 = some false ∧ tZero Try.prog 4 = some (.bool false) := ⟨by kernel_rfl, by kernel_rfl, by kernel_rfl, by kernel_rfl⟩
theorem ty5 : tKind Try.prog 5 = some (.int .u8) ∧ tSize Try.prog 5 = some 1 ∧ tAgg Try.prog 5 = some false ∧ tZero Try.prog 5 = some (.int .u8 0) := ⟨by kernel_rfl, by kernel_rfl, by kernel_rfl, by kernel_rfl⟩
theorem ty9 : tKind Try.prog 9 = some (.str) ∧ tSize Try.prog 9 = some 1 ∧ tAgg Try.prog 9 = some false ∧ tZero Try.prog 9 = some (.string ByteArray.empty) := ⟨by kernel_rfl, by kernel_rfl, by kernel_rfl, by kernel_rfl⟩
theorem ty25 : tKind Try.prog 25 = some (.slice) ∧ tSize Try.prog 25 = some 1 ∧ tAgg Try.prog 25 = some false ∧ tZero Try.prog 25 = some (.slice none 0 0) ∧ tElem Try.prog 25 = some 9 ∧ tElemSize Try.prog 25 = some 1 ∧ tBytes Try.prog 25 = false := ⟨by kernel_rfl, by kernel_rfl, by kernel_rfl, by kernel_rfl, by kernel_rfl, by kernel_rfl, by kernel_rfl⟩
theorem ty44 : tKind Try.prog 44 = some (.slice) ∧ tSize Try.prog 44 = some 1 ∧ tAgg Try.prog 44 = some false ∧ tZero Try.prog 44 = some (.slice none 0 0) ∧ tElem Try.prog 44 = some 5 ∧ tElemSize Try.prog 44 = some 1 ∧ tBytes Try.prog 44 = true := ⟨by kernel_rfl, by kernel_rfl, by kernel_rfl, by kernel_rfl, by kernel_rfl, by kernel_rfl, by kernel_rfl⟩
theorem ty49 : tKind Try.prog 49 = some (.int .u64) ∧ tSize Try.prog 49 = some 1 ∧ tAgg Try.prog 49 = some false ∧ tZero Try.prog 49 = some (.int .u64 0) := ⟨by kernel_rfl, by kernel_rfl, by kernel_rfl, by kernel_rfl⟩
theorem ty56 : tKind Try.prog 56 = some (.map) ∧ tSize Try.prog 56 = some 1 ∧ tAgg Try.prog 56 = some false ∧ tZero Try.prog 56 = some (.map none) ∧ tMap Try.prog 56 = some (.str, 9) := ⟨by kernel_rfl, by kernel_rfl, by kernel_rfl, by kernel_rfl, by kernel_rfl⟩
theorem ty59 : tKind Try.prog 59 = some (.struct) ∧ tSize Try.prog 59 = some 2 ∧ tAgg Try.prog 59 = some true ∧ tZero Try.prog 59 = some (.agg #[.slice none 0 0, .int .i64 0]) ∧ tField Try.prog 59 0 = some (0, 44) ∧ tField Try.prog 59 1 = some (1, 3) ∧ tPlaces Try.prog 59 = some [(0, 1), (1, 1)] := ⟨by kernel_rfl, by kernel_rfl, by kernel_rfl, by kernel_rfl, by kernel_rfl, by kernel_rfl, by kernel_rfl⟩
end Go.Proofs.Ytaiagocjnnfkmaa.Amu.Ty
