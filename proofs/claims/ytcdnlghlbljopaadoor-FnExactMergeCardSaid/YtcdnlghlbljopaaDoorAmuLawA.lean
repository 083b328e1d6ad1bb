/- The laws' own functions: copies, comparisons, measures of the program's data (printed by law.py). -/
import Derived.Test.YtcdnlghlbljopaaDoorAmP
import Derived.Test.YtcdnlghlbljopaaDoorAmuStrs
namespace Go.Proofs.YtcdnlghlbljopaaDoor.Amu.Law
open Go Go.AM Go.Proofs
set_option linter.unusedVariables false
set_option linter.unusedSimpArgs false
theorem ty3 : tKind Tryd.prog 3 = some (.int .i64) ∧ tSize Tryd.prog 3 = some 1 ∧ tAgg Tryd.prog 3 = some false ∧ tZero Tryd.prog 3 = some (.int .i64 0) := ⟨by kernel_rfl, by kernel_rfl, by kernel_rfl, by kernel_rfl⟩
theorem ty4 : tKind Tryd.prog 4 = some (.bool) ∧ tSize Tryd.prog 4 = some 1 ∧ tAgg Tryd.prog 4 = some false ∧ tZero Tryd.prog 4 = some (.bool false) := ⟨by kernel_rfl, by kernel_rfl, by kernel_rfl, by kernel_rfl⟩
theorem ty9 : tKind Tryd.prog 9 = some (.str) ∧ tSize Tryd.prog 9 = some 1 ∧ tAgg Tryd.prog 9 = some false ∧ tZero Tryd.prog 9 = some (.string ByteArray.empty) := ⟨by kernel_rfl, by kernel_rfl, by kernel_rfl, by kernel_rfl⟩
theorem ty22 : tKind Tryd.prog 22 = some (.slice) ∧ tSize Tryd.prog 22 = some 1 ∧ tAgg Tryd.prog 22 = some false ∧ tZero Tryd.prog 22 = some (.slice none 0 0) ∧ tElem Tryd.prog 22 = some 187 ∧ tElemSize Tryd.prog 22 = some 3 ∧ tBytes Tryd.prog 22 = false := ⟨by kernel_rfl, by kernel_rfl, by kernel_rfl, by kernel_rfl, by kernel_rfl, by kernel_rfl, by kernel_rfl⟩
theorem ty24 : tKind Tryd.prog 24 = some (.struct) ∧ tSize Tryd.prog 24 = some 1 ∧ tAgg Tryd.prog 24 = some true ∧ tZero Tryd.prog 24 = some (.agg #[.slice none 0 0]) ∧ tField Tryd.prog 24 0 = some (0, 22) ∧ tPlaces Tryd.prog 24 = some [(0, 1)] := ⟨by kernel_rfl, by kernel_rfl, by kernel_rfl, by kernel_rfl, by kernel_rfl, by kernel_rfl⟩
theorem ty27 : tKind Tryd.prog 27 = some (.slice) ∧ tSize Tryd.prog 27 = some 1 ∧ tAgg Tryd.prog 27 = some false ∧ tZero Tryd.prog 27 = some (.slice none 0 0) ∧ tElem Tryd.prog 27 = some 109 ∧ tElemSize Tryd.prog 27 = some 3 ∧ tBytes Tryd.prog 27 = false := ⟨by kernel_rfl, by kernel_rfl, by kernel_rfl, by kernel_rfl, by kernel_rfl, by kernel_rfl, by kernel_rfl⟩
theorem ty29 : tKind Tryd.prog 29 = some (.struct) ∧ tSize Tryd.prog 29 = some 1 ∧ tAgg Tryd.prog 29 = some true ∧ tZero Tryd.prog 29 = some (.agg #[.slice none 0 0]) ∧ tField Tryd.prog 29 0 = some (0, 27) ∧ tPlaces Tryd.prog 29 = some [(0, 1)] := ⟨by kernel_rfl, by kernel_rfl, by kernel_rfl, by kernel_rfl, by kernel_rfl, by kernel_rfl⟩
theorem ty33 : tKind Tryd.prog 33 = some (.slice) ∧ tSize Tryd.prog 33 = some 1 ∧ tAgg Tryd.prog 33 = some false ∧ tZero Tryd.prog 33 = some (.slice none 0 0) ∧ tElem Tryd.prog 33 = some 196 ∧ tElemSize Tryd.prog 33 = some 2 ∧ tBytes Tryd.prog 33 = false := ⟨by kernel_rfl, by kernel_rfl, by kernel_rfl, by kernel_rfl, by kernel_rfl, by kernel_rfl, by kernel_rfl⟩
theorem ty34 : tKind Tryd.prog 34 = some (.slice) ∧ tSize Tryd.prog 34 = some 1 ∧ tAgg Tryd.prog 34 = some false ∧ tZero Tryd.prog 34 = some (.slice none 0 0) ∧ tElem Tryd.prog 34 = some 199 ∧ tElemSize Tryd.prog 34 = some 2 ∧ tBytes Tryd.prog 34 = false := ⟨by kernel_rfl, by kernel_rfl, by kernel_rfl, by kernel_rfl, by kernel_rfl, by kernel_rfl, by kernel_rfl⟩
theorem ty36 : tKind Tryd.prog 36 = some (.struct) ∧ tSize Tryd.prog 36 = some 2 ∧ tAgg Tryd.prog 36 = some true ∧ tZero Tryd.prog 36 = some (.agg #[.slice none 0 0, .slice none 0 0]) ∧ tField Tryd.prog 36 0 = some (0, 33) ∧ tField Tryd.prog 36 1 = some (1, 34) ∧ tPlaces Tryd.prog 36 = some [(0, 1), (1, 1)] := ⟨by kernel_rfl, by kernel_rfl, by kernel_rfl, by kernel_rfl, by kernel_rfl, by kernel_rfl, by kernel_rfl⟩
theorem ty39 : tKind Tryd.prog 39 = some (.slice) ∧ tSize Tryd.prog 39 = some 1 ∧ tAgg Tryd.prog 39 = some false ∧ tZero Tryd.prog 39 = some (.slice none 0 0) ∧ tElem Tryd.prog 39 = some 116 ∧ tElemSize Tryd.prog 39 = some 2 ∧ tBytes Tryd.prog 39 = false := ⟨by kernel_rfl, by kernel_rfl, by kernel_rfl, by kernel_rfl, by kernel_rfl, by kernel_rfl, by kernel_rfl⟩
theorem ty40 : tKind Tryd.prog 40 = some (.slice) ∧ tSize Tryd.prog 40 = some 1 ∧ tAgg Tryd.prog 40 = some false ∧ tZero Tryd.prog 40 = some (.slice none 0 0) ∧ tElem Tryd.prog 40 = some 118 ∧ tElemSize Tryd.prog 40 = some 2 ∧ tBytes Tryd.prog 40 = false := ⟨by kernel_rfl, by kernel_rfl, by kernel_rfl, by kernel_rfl, by kernel_rfl, by kernel_rfl, by kernel_rfl⟩
theorem ty42 : tKind Tryd.prog 42 = some (.struct) ∧ tSize Tryd.prog 42 = some 2 ∧ tAgg Tryd.prog 42 = some true ∧ tZero Tryd.prog 42 = some (.agg #[.slice none 0 0, .slice none 0 0]) ∧ tField Tryd.prog 42 0 = some (0, 39) ∧ tField Tryd.prog 42 1 = some (1, 40) ∧ tPlaces Tryd.prog 42 = some [(0, 1), (1, 1)] := ⟨by kernel_rfl, by kernel_rfl, by kernel_rfl, by kernel_rfl, by kernel_rfl, by kernel_rfl, by kernel_rfl⟩
theorem ty47 : tKind Tryd.prog 47 = some (.slice) ∧ tSize Tryd.prog 47 = some 1 ∧ tAgg Tryd.prog 47 = some false ∧ tZero Tryd.prog 47 = some (.slice none 0 0) ∧ tElem Tryd.prog 47 = some 9 ∧ tElemSize Tryd.prog 47 = some 1 ∧ tBytes Tryd.prog 47 = false := ⟨by kernel_rfl, by kernel_rfl, by kernel_rfl, by kernel_rfl, by kernel_rfl, by kernel_rfl, by kernel_rfl⟩
theorem ty48 : tKind Tryd.prog 48 = some (.slice) ∧ tSize Tryd.prog 48 = some 1 ∧ tAgg Tryd.prog 48 = some false ∧ tZero Tryd.prog 48 = some (.slice none 0 0) ∧ tElem Tryd.prog 48 = some 208 ∧ tElemSize Tryd.prog 48 = some 3 ∧ tBytes Tryd.prog 48 = false := ⟨by kernel_rfl, by kernel_rfl, by kernel_rfl, by kernel_rfl, by kernel_rfl, by kernel_rfl, by kernel_rfl⟩
theorem ty50 : tKind Tryd.prog 50 = some (.struct) ∧ tSize Tryd.prog 50 = some 3 ∧ tAgg Tryd.prog 50 = some true ∧ tZero Tryd.prog 50 = some (.agg #[.int .i64 0, .slice none 0 0, .slice none 0 0]) ∧ tField Tryd.prog 50 0 = some (0, 3) ∧ tField Tryd.prog 50 1 = some (1, 47) ∧ tField Tryd.prog 50 2 = some (2, 48) ∧ tPlaces Tryd.prog 50 = some [(0, 1), (1, 1), (2, 1)] := ⟨by kernel_rfl, by kernel_rfl, by kernel_rfl, by kernel_rfl, by kernel_rfl, by kernel_rfl, by kernel_rfl, by kernel_rfl⟩
theorem ty53 : tKind Tryd.prog 53 = some (.slice) ∧ tSize Tryd.prog 53 = some 1 ∧ tAgg Tryd.prog 53 = some false ∧ tZero Tryd.prog 53 = some (.slice none 0 0) ∧ tElem Tryd.prog 53 = some 69 ∧ tElemSize Tryd.prog 53 = some 3 ∧ tBytes Tryd.prog 53 = false := ⟨by kernel_rfl, by kernel_rfl, by kernel_rfl, by kernel_rfl, by kernel_rfl, by kernel_rfl, by kernel_rfl⟩
theorem ty55 : tKind Tryd.prog 55 = some (.struct) ∧ tSize Tryd.prog 55 = some 3 ∧ tAgg Tryd.prog 55 = some true ∧ tZero Tryd.prog 55 = some (.agg #[.int .i64 0, .slice none 0 0, .slice none 0 0]) ∧ tField Tryd.prog 55 0 = some (0, 3) ∧ tField Tryd.prog 55 1 = some (1, 47) ∧ tField Tryd.prog 55 2 = some (2, 53) ∧ tPlaces Tryd.prog 55 = some [(0, 1), (1, 1), (2, 1)] := ⟨by kernel_rfl, by kernel_rfl, by kernel_rfl, by kernel_rfl, by kernel_rfl, by kernel_rfl, by kernel_rfl, by kernel_rfl⟩
theorem ty62 : tKind Tryd.prog 62 = some (.slice) ∧ tSize Tryd.prog 62 = some 1 ∧ tAgg Tryd.prog 62 = some false ∧ tZero Tryd.prog 62 = some (.slice none 0 0) ∧ tElem Tryd.prog 62 = some 148 ∧ tElemSize Tryd.prog 62 = some 3 ∧ tBytes Tryd.prog 62 = false := ⟨by kernel_rfl, by kernel_rfl, by kernel_rfl, by kernel_rfl, by kernel_rfl, by kernel_rfl, by kernel_rfl⟩
theorem ty64 : tKind Tryd.prog 64 = some (.struct) ∧ tSize Tryd.prog 64 = some 3 ∧ tAgg Tryd.prog 64 = some true ∧ tZero Tryd.prog 64 = some (.agg #[.int .i64 0, .string ByteArray.empty, .slice none 0 0]) ∧ tField Tryd.prog 64 0 = some (0, 3) ∧ tField Tryd.prog 64 1 = some (1, 9) ∧ tField Tryd.prog 64 2 = some (2, 47) ∧ tPlaces Tryd.prog 64 = some [(0, 1), (1, 1), (2, 1)] := ⟨by kernel_rfl, by kernel_rfl, by kernel_rfl, by kernel_rfl, by kernel_rfl, by kernel_rfl, by kernel_rfl, by kernel_rfl⟩
theorem ty67 : tKind Tryd.prog 67 = some (.slice) ∧ tSize Tryd.prog 67 = some 1 ∧ tAgg Tryd.prog 67 = some false ∧ tZero Tryd.prog 67 = some (.slice none 0 0) ∧ tElem Tryd.prog 67 = some 153 ∧ tElemSize Tryd.prog 67 = some 3 ∧ tBytes Tryd.prog 67 = false := ⟨by kernel_rfl, by kernel_rfl, by kernel_rfl, by kernel_rfl, by kernel_rfl, by kernel_rfl, by kernel_rfl⟩
theorem ty69 : tKind Tryd.prog 69 = some (.struct) ∧ tSize Tryd.prog 69 = some 3 ∧ tAgg Tryd.prog 69 = some true ∧ tZero Tryd.prog 69 = some (.agg #[.slice none 0 0, .slice none 0 0, .string ByteArray.empty]) ∧ tField Tryd.prog 69 0 = some (0, 29) ∧ tField Tryd.prog 69 1 = some (1, 67) ∧ tField Tryd.prog 69 2 = some (2, 9) ∧ tPlaces Tryd.prog 69 = some [(0, 1), (1, 1), (2, 1)] := ⟨by kernel_rfl, by kernel_rfl, by kernel_rfl, by kernel_rfl, by kernel_rfl, by kernel_rfl, by kernel_rfl, by kernel_rfl⟩
theorem ty71 : tKind Tryd.prog 71 = some (.slice) ∧ tSize Tryd.prog 71 = some 1 ∧ tAgg Tryd.prog 71 = some false ∧ tZero Tryd.prog 71 = some (.slice none 0 0) ∧ tElem Tryd.prog 71 = some 151 ∧ tElemSize Tryd.prog 71 = some 3 ∧ tBytes Tryd.prog 71 = false := ⟨by kernel_rfl, by kernel_rfl, by kernel_rfl, by kernel_rfl, by kernel_rfl, by kernel_rfl, by kernel_rfl⟩
theorem ty73 : tKind Tryd.prog 73 = some (.struct) ∧ tSize Tryd.prog 73 = some 3 ∧ tAgg Tryd.prog 73 = some true ∧ tZero Tryd.prog 73 = some (.agg #[.int .i64 0, .string ByteArray.empty, .slice none 0 0]) ∧ tField Tryd.prog 73 0 = some (0, 3) ∧ tField Tryd.prog 73 1 = some (1, 9) ∧ tField Tryd.prog 73 2 = some (2, 47) ∧ tPlaces Tryd.prog 73 = some [(0, 1), (1, 1), (2, 1)] := ⟨by kernel_rfl, by kernel_rfl, by kernel_rfl, by kernel_rfl, by kernel_rfl, by kernel_rfl, by kernel_rfl, by kernel_rfl⟩
theorem ty88 : tKind Tryd.prog 88 = some (.struct) ∧ tSize Tryd.prog 88 = some 6 ∧ tAgg Tryd.prog 88 = some true ∧ tZero Tryd.prog 88 = some (.agg #[.int .i64 0, .int .i64 0, .slice none 0 0, .slice none 0 0, .string ByteArray.empty, .string ByteArray.empty]) ∧ tField Tryd.prog 88 0 = some (0, 3) ∧ tField Tryd.prog 88 1 = some (1, 55) ∧ tField Tryd.prog 88 2 = some (4, 9) ∧ tField Tryd.prog 88 3 = some (5, 9) ∧ tPlaces Tryd.prog 88 = some [(0, 1), (1, 3), (4, 1), (5, 1)] := ⟨by kernel_rfl, by kernel_rfl, by kernel_rfl, by kernel_rfl, by kernel_rfl, by kernel_rfl, by kernel_rfl, by kernel_rfl, by kernel_rfl⟩
theorem ty93 : tKind Tryd.prog 93 = some (.slice) ∧ tSize Tryd.prog 93 = some 1 ∧ tAgg Tryd.prog 93 = some false ∧ tZero Tryd.prog 93 = some (.slice none 0 0) ∧ tElem Tryd.prog 93 = some 171 ∧ tElemSize Tryd.prog 93 = some 3 ∧ tBytes Tryd.prog 93 = false := ⟨by kernel_rfl, by kernel_rfl, by kernel_rfl, by kernel_rfl, by kernel_rfl, by kernel_rfl, by kernel_rfl⟩
theorem ty96 : tKind Tryd.prog 96 = some (.struct) ∧ tSize Tryd.prog 96 = some 6 ∧ tAgg Tryd.prog 96 = some true ∧ tZero Tryd.prog 96 = some (.agg #[.bool false, .int .i64 0, .string ByteArray.empty, .bool false, .string ByteArray.empty, .int .i64 0]) ∧ tField Tryd.prog 96 0 = some (0, 4) ∧ tField Tryd.prog 96 1 = some (1, 3) ∧ tField Tryd.prog 96 2 = some (2, 9) ∧ tField Tryd.prog 96 3 = some (3, 4) ∧ tField Tryd.prog 96 4 = some (4, 9) ∧ tField Tryd.prog 96 5 = some (5, 3) ∧ tPlaces Tryd.prog 96 = some [(0, 1), (1, 1), (2, 1), (3, 1), (4, 1), (5, 1)] := ⟨by kernel_rfl, by kernel_rfl, by kernel_rfl, by kernel_rfl, by kernel_rfl, by kernel_rfl, by kernel_rfl, by kernel_rfl, by kernel_rfl, by kernel_rfl, by kernel_rfl⟩
theorem ty98 : tKind Tryd.prog 98 = some (.slice) ∧ tSize Tryd.prog 98 = some 1 ∧ tAgg Tryd.prog 98 = some false ∧ tZero Tryd.prog 98 = some (.slice none 0 0) ∧ tElem Tryd.prog 98 = some 172 ∧ tElemSize Tryd.prog 98 = some 3 ∧ tBytes Tryd.prog 98 = false := ⟨by kernel_rfl, by kernel_rfl, by kernel_rfl, by kernel_rfl, by kernel_rfl, by kernel_rfl, by kernel_rfl⟩
theorem ty109 : tKind Tryd.prog 109 = some (.struct) ∧ tSize Tryd.prog 109 = some 3 ∧ tAgg Tryd.prog 109 = some true ∧ tZero Tryd.prog 109 = some (.agg #[.int .i64 0, .string ByteArray.empty, .int .i64 0]) ∧ tField Tryd.prog 109 0 = some (0, 3) ∧ tField Tryd.prog 109 1 = some (1, 9) ∧ tField Tryd.prog 109 2 = some (2, 3) ∧ tPlaces Tryd.prog 109 = some [(0, 1), (1, 1), (2, 1)] := ⟨by kernel_rfl, by kernel_rfl, by kernel_rfl, by kernel_rfl, by kernel_rfl, by kernel_rfl, by kernel_rfl, by kernel_rfl⟩
theorem ty116 : tKind Tryd.prog 116 = some (.struct) ∧ tSize Tryd.prog 116 = some 2 ∧ tAgg Tryd.prog 116 = some true ∧ tZero Tryd.prog 116 = some (.agg #[.string ByteArray.empty, .string ByteArray.empty]) ∧ tField Tryd.prog 116 0 = some (0, 9) ∧ tField Tryd.prog 116 1 = some (1, 9) ∧ tPlaces Tryd.prog 116 = some [(0, 1), (1, 1)] := ⟨by kernel_rfl, by kernel_rfl, by kernel_rfl, by kernel_rfl, by kernel_rfl, by kernel_rfl, by kernel_rfl⟩
theorem ty118 : tKind Tryd.prog 118 = some (.struct) ∧ tSize Tryd.prog 118 = some 2 ∧ tAgg Tryd.prog 118 = some true ∧ tZero Tryd.prog 118 = some (.agg #[.string ByteArray.empty, .slice none 0 0]) ∧ tField Tryd.prog 118 0 = some (0, 9) ∧ tField Tryd.prog 118 1 = some (1, 29) ∧ tPlaces Tryd.prog 118 = some [(0, 1), (1, 1)] := ⟨by kernel_rfl, by kernel_rfl, by kernel_rfl, by kernel_rfl, by kernel_rfl, by kernel_rfl, by kernel_rfl⟩
theorem ty148 : tKind Tryd.prog 148 = some (.struct) ∧ tSize Tryd.prog 148 = some 3 ∧ tAgg Tryd.prog 148 = some true ∧ tZero Tryd.prog 148 = some (.agg #[.string ByteArray.empty, .bool false, .string ByteArray.empty]) ∧ tField Tryd.prog 148 0 = some (0, 9) ∧ tField Tryd.prog 148 1 = some (1, 4) ∧ tField Tryd.prog 148 2 = some (2, 9) ∧ tPlaces Tryd.prog 148 = some [(0, 1), (1, 1), (2, 1)] := ⟨by kernel_rfl, by kernel_rfl, by kernel_rfl, by kernel_rfl, by kernel_rfl, by kernel_rfl, by kernel_rfl, by kernel_rfl⟩
theorem ty151 : tKind Tryd.prog 151 = some (.struct) ∧ tSize Tryd.prog 151 = some 3 ∧ tAgg Tryd.prog 151 = some true ∧ tZero Tryd.prog 151 = some (.agg #[.string ByteArray.empty, .bool false, .string ByteArray.empty]) ∧ tField Tryd.prog 151 0 = some (0, 9) ∧ tField Tryd.prog 151 1 = some (1, 4) ∧ tField Tryd.prog 151 2 = some (2, 9) ∧ tPlaces Tryd.prog 151 = some [(0, 1), (1, 1), (2, 1)] := ⟨by kernel_rfl, by kernel_rfl, by kernel_rfl, by kernel_rfl, by kernel_rfl, by kernel_rfl, by kernel_rfl, by kernel_rfl⟩
theorem ty153 : tKind Tryd.prog 153 = some (.struct) ∧ tSize Tryd.prog 153 = some 3 ∧ tAgg Tryd.prog 153 = some true ∧ tZero Tryd.prog 153 = some (.agg #[.string ByteArray.empty, .bool false, .string ByteArray.empty]) ∧ tField Tryd.prog 153 0 = some (0, 9) ∧ tField Tryd.prog 153 1 = some (1, 4) ∧ tField Tryd.prog 153 2 = some (2, 9) ∧ tPlaces Tryd.prog 153 = some [(0, 1), (1, 1), (2, 1)] := ⟨by kernel_rfl, by kernel_rfl, by kernel_rfl, by kernel_rfl, by kernel_rfl, by kernel_rfl, by kernel_rfl, by kernel_rfl⟩
theorem ty171 : tKind Tryd.prog 171 = some (.struct) ∧ tSize Tryd.prog 171 = some 3 ∧ tAgg Tryd.prog 171 = some true ∧ tZero Tryd.prog 171 = some (.agg #[.bool false, .int .i64 0, .string ByteArray.empty]) ∧ tField Tryd.prog 171 0 = some (0, 4) ∧ tField Tryd.prog 171 1 = some (1, 3) ∧ tField Tryd.prog 171 2 = some (2, 9) ∧ tPlaces Tryd.prog 171 = some [(0, 1), (1, 1), (2, 1)] := ⟨by kernel_rfl, by kernel_rfl, by kernel_rfl, by kernel_rfl, by kernel_rfl, by kernel_rfl, by kernel_rfl, by kernel_rfl⟩
theorem ty172 : tKind Tryd.prog 172 = some (.struct) ∧ tSize Tryd.prog 172 = some 3 ∧ tAgg Tryd.prog 172 = some true ∧ tZero Tryd.prog 172 = some (.agg #[.bool false, .int .i64 0, .string ByteArray.empty]) ∧ tField Tryd.prog 172 0 = some (0, 4) ∧ tField Tryd.prog 172 1 = some (1, 3) ∧ tField Tryd.prog 172 2 = some (2, 9) ∧ tPlaces Tryd.prog 172 = some [(0, 1), (1, 1), (2, 1)] := ⟨by kernel_rfl, by kernel_rfl, by kernel_rfl, by kernel_rfl, by kernel_rfl, by kernel_rfl, by kernel_rfl, by kernel_rfl⟩
theorem ty187 : tKind Tryd.prog 187 = some (.struct) ∧ tSize Tryd.prog 187 = some 3 ∧ tAgg Tryd.prog 187 = some true ∧ tZero Tryd.prog 187 = some (.agg #[.int .i64 0, .string ByteArray.empty, .int .i64 0]) ∧ tField Tryd.prog 187 0 = some (0, 3) ∧ tField Tryd.prog 187 1 = some (1, 9) ∧ tField Tryd.prog 187 2 = some (2, 3) ∧ tPlaces Tryd.prog 187 = some [(0, 1), (1, 1), (2, 1)] := ⟨by kernel_rfl, by kernel_rfl, by kernel_rfl, by kernel_rfl, by kernel_rfl, by kernel_rfl, by kernel_rfl, by kernel_rfl⟩
theorem ty196 : tKind Tryd.prog 196 = some (.struct) ∧ tSize Tryd.prog 196 = some 2 ∧ tAgg Tryd.prog 196 = some true ∧ tZero Tryd.prog 196 = some (.agg #[.string ByteArray.empty, .string ByteArray.empty]) ∧ tField Tryd.prog 196 0 = some (0, 9) ∧ tField Tryd.prog 196 1 = some (1, 9) ∧ tPlaces Tryd.prog 196 = some [(0, 1), (1, 1)] := ⟨by kernel_rfl, by kernel_rfl, by kernel_rfl, by kernel_rfl, by kernel_rfl, by kernel_rfl, by kernel_rfl⟩
theorem ty199 : tKind Tryd.prog 199 = some (.struct) ∧ tSize Tryd.prog 199 = some 2 ∧ tAgg Tryd.prog 199 = some true ∧ tZero Tryd.prog 199 = some (.agg #[.string ByteArray.empty, .slice none 0 0]) ∧ tField Tryd.prog 199 0 = some (0, 9) ∧ tField Tryd.prog 199 1 = some (1, 24) ∧ tPlaces Tryd.prog 199 = some [(0, 1), (1, 1)] := ⟨by kernel_rfl, by kernel_rfl, by kernel_rfl, by kernel_rfl, by kernel_rfl, by kernel_rfl, by kernel_rfl⟩
theorem ty206 : tKind Tryd.prog 206 = some (.slice) ∧ tSize Tryd.prog 206 = some 1 ∧ tAgg Tryd.prog 206 = some false ∧ tZero Tryd.prog 206 = some (.slice none 0 0) ∧ tElem Tryd.prog 206 = some 234 ∧ tElemSize Tryd.prog 206 = some 3 ∧ tBytes Tryd.prog 206 = false := ⟨by kernel_rfl, by kernel_rfl, by kernel_rfl, by kernel_rfl, by kernel_rfl, by kernel_rfl, by kernel_rfl⟩
theorem ty208 : tKind Tryd.prog 208 = some (.struct) ∧ tSize Tryd.prog 208 = some 3 ∧ tAgg Tryd.prog 208 = some true ∧ tZero Tryd.prog 208 = some (.agg #[.slice none 0 0, .slice none 0 0, .string ByteArray.empty]) ∧ tField Tryd.prog 208 0 = some (0, 24) ∧ tField Tryd.prog 208 1 = some (1, 206) ∧ tField Tryd.prog 208 2 = some (2, 9) ∧ tPlaces Tryd.prog 208 = some [(0, 1), (1, 1), (2, 1)] := ⟨by kernel_rfl, by kernel_rfl, by kernel_rfl, by kernel_rfl, by kernel_rfl, by kernel_rfl, by kernel_rfl, by kernel_rfl⟩
theorem ty234 : tKind Tryd.prog 234 = some (.struct) ∧ tSize Tryd.prog 234 = some 3 ∧ tAgg Tryd.prog 234 = some true ∧ tZero Tryd.prog 234 = some (.agg #[.string ByteArray.empty, .bool false, .string ByteArray.empty]) ∧ tField Tryd.prog 234 0 = some (0, 9) ∧ tField Tryd.prog 234 1 = some (1, 4) ∧ tField Tryd.prog 234 2 = some (2, 9) ∧ tPlaces Tryd.prog 234 = some [(0, 1), (1, 1), (2, 1)] := ⟨by kernel_rfl, by kernel_rfl, by kernel_rfl, by kernel_rfl, by kernel_rfl, by kernel_rfl, by kernel_rfl, by kernel_rfl⟩

variable {ro : Nat} {X : FuncId → List Value → AH → ARes → AH → Prop}
set_option maxRecDepth 10000
theorem toL_str (A : AH) (hro : ro ≤ A.size) (s : Sl) (l : List ByteArray) (F : List Nat) (hs : SlR A s l F) (hz : szL Mk.sz l < 4294967296) :
    ACalls Tryd.prog ro X 90 [s.v] A (fun r A' => ∃ t G, r = .ret t.v ∧ SlR A' t l G ∧ Fresh A G A' ∧ Ext A A') :=
  Strs.toStringS_a A hro s l F hs (by have := szL_length Mk.sz l; omega)
theorem eqL_str (A : AH) (hro : ro ≤ A.size) (s t : Sl) (l k : List ByteArray) (F G : List Nat) (hs : SlR A s l F) (ht : SlR A t k G) (hz : szL Mk.sz l < 4294967296) :
    ACalls Tryd.prog ro X 95 [s.v, t.v] A (fun r A' => r = .ret (.bool (decide (l = k))) ∧ Ext A A') :=
  (Strs.eqStringS_a A s t l k F G hs ht (by have := szL_length Mk.sz l; omega)).mono fun r A' h => ⟨h.1, by rw [h.2]; exact Ext.refl A⟩
theorem szL_str (A : AH) (hro : ro ≤ A.size) (s : Sl) (l : List ByteArray) (F : List Nat) (hs : SlR A s l F) (hn : Mk.bd l) (left : Int) (hz : 0 ≤ left ∧ left ≤ 2097152) :
    ACalls Tryd.prog ro X 85 [s.v, .int .i64 left] A (fun r A' => r = .ret (.int .i64 (szR left (szL Mk.sz l))) ∧ Ext A A') :=
  (Strs.szStringS_a A s l F hs hn.1 left hz).mono fun r A' h => ⟨h.1, by rw [h.2]; exact Ext.refl A⟩
theorem to_Ins (A : AH) (hro : ro ≤ A.size) (x : TIns) (cs : List Value) (F : List Nat) (h : Dat.rep A x cs F) (hz : Mk.sz x < 4294967296) :
    ACalls Tryd.prog ro X 144 [.agg cs.toArray] A (fun r A' => ∃ cs' F', r = .ret (.agg cs'.toArray) ∧ Dat.rep A' x cs' F' ∧ Fresh A F' A' ∧ Ext A A') := by
  obtain ⟨rfl, rfl, z1⟩ := rep_Ins.1 h
  have y1 := big_lt z1
  have hsz : Mk.sz x = 0 + (x.2.1.size + (0)) := rfl
  refine ACalls.enterQ (rs := [.cell 2 109]) Tryd.func144 rfl (by kernel_rfl) rfl ?_
  simp (maxSteps := 2000000) (disch := first | omega | (simp only [AH.size_new, AH.size_put] <;> omega) | fail) only [amR Tryd.prog ro X, amS, seval, reduceCtorEq, ty3, ty9, ty109, ty187]
  exact ⟨_, _, rfl, rep_Ins.2 ⟨rfl, rfl, z1⟩, Fresh.nil _ _, by ((repeat' (first | exact Ext.refl _ | assumption | refine Ext.trans ?_ (Ext.new _ _) | refine Ext.put ?_ ?_ _ | refine Ext.trans ?_ (by assumption))) <;> (first | omega | (simp only [AH.size_new, AH.size_put] <;> omega)))⟩
theorem toL_Ins (A : AH) (hro : ro ≤ A.size) (s : Sl) (l : List TIns) (F : List Nat) (hs : SlR A s l F) (hz : szL Mk.sz l < 4294967296) :
    ACalls Tryd.prog ro X 69 [s.v] A (fun r A' => ∃ t G, r = .ret t.v ∧ SlR A' t l G ∧ Fresh A G A' ∧ Ext A A') := by
  have hl := szL_length Mk.sz l
  refine ACalls.enterQ (rs := [.tmp 2]) Tryd.func69 rfl (by kernel_rfl) rfl ?_
  simp (maxSteps := 2000000) (disch := first | omega | (simp only [AH.size_new, AH.size_put] <;> omega) | fail) only [amR Tryd.prog ro X, amS, seval, reduceCtorEq, ty3, ty9, ty22, ty27, ty109, ty187, hs.len]
  refine Wp.loopC (fun n e A' => Ext A A' ∧ A.size < A'.size ∧ e 0 = s.v ∧ e 3 = (Sl.mk false A.size 0 l.length l.length).v ∧ ∃ i : Nat, i ≤ l.length ∧ n = l.length - i ∧ e 4 = .int .i64 i ∧ ∃ G, Part A' A.size l.length (l.take i) G ∧ Fresh (A.new .dead) G A') (l.length - 0) ?_ ?_
  · simp (maxSteps := 2000000) (disch := first | omega | (simp only [AH.size_new, AH.size_put] <;> omega) | fail) only [amV, amH, amQ, amL, amN Tryd.prog, amS, seval, reduceCtorEq, ty3, ty9, ty22, ty27, ty109, ty187]
    refine ⟨Ext.new A _, by omega, 0, by omega, rfl, rfl, [], ?_, Fresh.nil _ _⟩
    rw [List.take_zero]
    exact Part.start (by simp [AH.size_new]) (AH.get_new_self _ _) (fill_flat _ _ _ rfl)
  · rintro n e A' ⟨hE, hlt, h0, h3, i, hi, rfl, h4, G, hp, hf⟩
    have hs' := hs.ext hE
    simp (maxSteps := 2000000) (disch := first | omega | (simp only [AH.size_new, AH.size_put] <;> omega) | fail) only [amR Tryd.prog ro X, amS, seval, reduceCtorEq, ty3, ty9, ty22, ty27, ty109, ty187, h0, h3, h4, hs.len]
    refine CondB.split (fun h => ?_) (fun h => ?_)
    · have hil : i < l.length := by simp at h; omega
      obtain ⟨n1, b1, m1, i1, cs, Fi, c1, q1, _⟩ := hs'.row hil
      rw [aRow_eq] at c1
      have hw : Dat.w TIns = 3 := rfl
      rw [hw] at c1
      have hzi := szL_get Mk.sz l i hil
      simp (maxSteps := 2000000) (disch := first | omega | (simp only [AH.size_new, AH.size_put] <;> omega) | fail) only [amR Tryd.prog ro X, amS, seval, reduceCtorEq, ty3, ty9, ty22, ty27, ty109, ty187, h0, h3, h4, n1, c1]
      refine (to_Ins _ (by omega) l[i] cs Fi q1 (by omega)).mono ?_
      rintro r A2 ⟨cs', F', rfl, q2, f2, hE2⟩
      have v2 := hE2.size
      have hp2 := hp.ext hE2
      have hl2 : cs'.length = 3 := Dat.len q2
      obtain ⟨hlt2, ⟨c, g1, g2, g3⟩, hle⟩ := id hp2
      have hwl : (i + 1) * 3 ≤ l.length * 3 := Nat.mul_le_mul_right _ hil
      rw [hw] at g1 g2
      simp (maxSteps := 2000000) (disch := first | omega | (simp only [AH.size_new, AH.size_put] <;> omega) | fail) only [amR Tryd.prog ro X, amS, seval, reduceCtorEq, ty3, ty9, ty22, ty27, ty109, ty187, h0, h3, h4, g1, hl2]
      refine ⟨l.length - (i + 1), by omega, (hE.trans hE2).put (Nat.le_refl _) _, by omega, i + 1, by omega, rfl, by simp, G ++ F', ?_, (hf.mono (Nat.le_refl _) (Nat.le_refl _)).append (f2.mono (Nat.le_refl _) (Nat.le_refl _)) (by simp [AH.size_new]; omega) v2⟩
      have := hp2.store (fun hm => by have := hf.lo _ hm; simp [AH.size_new] at this; omega) q2 (fun hm => by have := f2.lo _ hm; omega) (by simp; omega) g1
      rw [List.take_succ_eq_append_getElem hil]
      rw [List.length_take, Nat.min_eq_left hi, hw] at this
      exact this
    · have hil : i = l.length := by simp at h; omega
      subst hil
      simp (maxSteps := 2000000) (disch := first | omega | (simp only [AH.size_new, AH.size_put] <;> omega) | fail) only [amR Tryd.prog ro X, amS, seval, reduceCtorEq, ty3, ty9, ty22, ty27, ty109, ty187, h3]
      rw [List.take_length] at hp
      exact ⟨_, _, rfl, hp.done rfl (by unfold BIG; omega), Fresh.cons (Nat.le_refl _) (by simp [AH.size_new]) hf (by simp only [AH.size_new]; omega) (by simp only [AH.size_new]; omega), hE⟩
theorem eq_Ins (A : AH) (hro : ro ≤ A.size) (x y : TIns) (cs ds : List Value) (F F' : List Nat) (h : Dat.rep A x cs F) (h' : Dat.rep A y ds F') (hz : Mk.sz x < 4294967296) :
    ACalls Tryd.prog ro X 145 [.agg cs.toArray, .agg ds.toArray] A (fun r A' => r = .ret (.bool (decide (x = y))) ∧ Ext A A') := by
  obtain ⟨rfl, rfl, z1⟩ := rep_Ins.1 h
  obtain ⟨rfl, rfl, z1'⟩ := rep_Ins.1 h'
  have hsz : Mk.sz x = 0 + (x.2.1.size + (0)) := rfl
  refine ACalls.enterQ (rs := [.tmp 4]) Tryd.func145 rfl (by kernel_rfl) rfl ?_
  simp (maxSteps := 2000000) (disch := first | omega | (simp only [AH.size_new, AH.size_put] <;> omega) | fail) only [amR Tryd.prog ro X, amS, seval, reduceCtorEq, ty3, ty9, ty109]
  refine CondB.split (fun h => ?_) (fun h => ?_)
  · have hc : ¬ x.1 = y.1 := by simpa using h
    simp (maxSteps := 2000000) (disch := first | omega | (simp only [AH.size_new, AH.size_put] <;> omega) | fail) only [amR Tryd.prog ro X, amS, seval, reduceCtorEq, ty3, ty9, ty109]
    exact ⟨by rw [decide_eq_false (fun e => hc (by rw [e]))], by ((repeat' (first | exact Ext.refl _ | assumption | refine Ext.trans ?_ (Ext.new _ _) | refine Ext.put ?_ ?_ _ | refine Ext.trans ?_ (by assumption))) <;> (first | omega | (simp only [AH.size_new, AH.size_put] <;> omega)))⟩
  have c1 : x.1 = y.1 := by simpa using h
  simp (maxSteps := 2000000) (disch := first | omega | (simp only [AH.size_new, AH.size_put] <;> omega) | fail) only [amR Tryd.prog ro X, amS, seval, reduceCtorEq, ty3, ty9, ty109]
  refine CondB.split (fun h => ?_) (fun h => ?_)
  · have hc : ¬ x.2.1 = y.2.1 := by simpa using h
    simp (maxSteps := 2000000) (disch := first | omega | (simp only [AH.size_new, AH.size_put] <;> omega) | fail) only [amR Tryd.prog ro X, amS, seval, reduceCtorEq, ty3, ty9, ty109]
    exact ⟨by rw [decide_eq_false (fun e => hc (by rw [e]))], by ((repeat' (first | exact Ext.refl _ | assumption | refine Ext.trans ?_ (Ext.new _ _) | refine Ext.put ?_ ?_ _ | refine Ext.trans ?_ (by assumption))) <;> (first | omega | (simp only [AH.size_new, AH.size_put] <;> omega)))⟩
  have c2 : x.2.1 = y.2.1 := by simpa using h
  simp (maxSteps := 2000000) (disch := first | omega | (simp only [AH.size_new, AH.size_put] <;> omega) | fail) only [amR Tryd.prog ro X, amS, seval, reduceCtorEq, ty3, ty9, ty109]
  refine CondB.split (fun h => ?_) (fun h => ?_)
  · have hc : ¬ x.2.2 = y.2.2 := by simpa using h
    simp (maxSteps := 2000000) (disch := first | omega | (simp only [AH.size_new, AH.size_put] <;> omega) | fail) only [amR Tryd.prog ro X, amS, seval, reduceCtorEq, ty3, ty9, ty109]
    exact ⟨by rw [decide_eq_false (fun e => hc (by rw [e]))], by ((repeat' (first | exact Ext.refl _ | assumption | refine Ext.trans ?_ (Ext.new _ _) | refine Ext.put ?_ ?_ _ | refine Ext.trans ?_ (by assumption))) <;> (first | omega | (simp only [AH.size_new, AH.size_put] <;> omega)))⟩
  have c3 : x.2.2 = y.2.2 := by simpa using h
  simp (maxSteps := 2000000) (disch := first | omega | (simp only [AH.size_new, AH.size_put] <;> omega) | fail) only [amR Tryd.prog ro X, amS, seval, reduceCtorEq, ty3, ty9, ty109]
  exact ⟨by rw [decide_eq_true (Prod.ext c1 (Prod.ext c2 (c3)))], by ((repeat' (first | exact Ext.refl _ | assumption | refine Ext.trans ?_ (Ext.new _ _) | refine Ext.put ?_ ?_ _ | refine Ext.trans ?_ (by assumption))) <;> (first | omega | (simp only [AH.size_new, AH.size_put] <;> omega)))⟩
theorem eqL_Ins (A : AH) (hro : ro ≤ A.size) (s t : Sl) (l k : List TIns) (F G : List Nat) (hs : SlR A s l F) (ht : SlR A t k G) (hz : szL Mk.sz l < 4294967296) :
    ACalls Tryd.prog ro X 71 [s.v, t.v] A (fun r A' => r = .ret (.bool (decide (l = k))) ∧ Ext A A') := by
  have hl := szL_length Mk.sz l
  have hw : Dat.w TIns = 3 := rfl
  refine ACalls.enterQ (rs := [.tmp 4]) Tryd.func71 rfl (by kernel_rfl) rfl ?_
  simp (maxSteps := 2000000) (disch := first | omega | (simp only [AH.size_new, AH.size_put] <;> omega) | fail) only [amR Tryd.prog ro X, amS, seval, reduceCtorEq, ty3, ty4, ty9, ty27, ty109, hs.len, ht.len]
  refine CondB.split (fun h => ?_) (fun h => ?_)
  · simp (maxSteps := 2000000) (disch := first | omega | (simp only [AH.size_new, AH.size_put] <;> omega) | fail) only [amR Tryd.prog ro X, amS, seval, reduceCtorEq, ty3, ty4, ty9, ty27, ty109]
    have : l ≠ k := fun e => by simp [e] at h
    simp [this, Ext.refl]
  · simp (maxSteps := 2000000) (disch := first | omega | (simp only [AH.size_new, AH.size_put] <;> omega) | fail) only [amR Tryd.prog ro X, amS, seval, reduceCtorEq, ty3, ty4, ty9, ty27, ty109]
    have hlk : l.length = k.length := by simp at h; omega
    refine Wp.loopC (fun n e A' => Ext A A' ∧ e 0 = s.v ∧ e 1 = t.v ∧ ∃ i : Nat, i ≤ l.length ∧ n = l.length - i ∧ e 5 = .int .i64 i ∧ l.take i = k.take i) (l.length - 0) ?_ ?_
    · simp (maxSteps := 2000000) (disch := first | omega | (simp only [AH.size_new, AH.size_put] <;> omega) | fail) only [amV, amH, amQ, amL, amN Tryd.prog, amS, seval, reduceCtorEq, ty3, ty4, ty9, ty27, ty109]
      exact ⟨Ext.refl A, 0, by simp, rfl, rfl, by simp⟩
    · rintro n e A' ⟨hE, h0, h1, i, hi, rfl, h5, heq⟩
      have v1 := hE.size
      simp (maxSteps := 2000000) (disch := first | omega | (simp only [AH.size_new, AH.size_put] <;> omega) | fail) only [amR Tryd.prog ro X, amS, seval, reduceCtorEq, ty3, ty4, ty9, ty27, ty109, h0, h1, h5, hs.len]
      refine CondB.split (fun h => ?_) (fun h => ?_)
      · simp (maxSteps := 2000000) (disch := first | omega | (simp only [AH.size_new, AH.size_put] <;> omega) | fail) only [amR Tryd.prog ro X, amS, seval, reduceCtorEq, ty3, ty4, ty9, ty27, ty109]
        have hil : i < l.length := by simp at h; omega
        obtain ⟨n1, b1, m1, i1, cs, Fi, c1, q1, _⟩ := (hs.ext hE).row hil
        obtain ⟨n2, b2, m2, i2, ds, Gi, c2, q2, _⟩ := (ht.ext hE).row (i := i) (by omega)
        rw [aRow_eq, hw] at c1 c2
        have hzi := szL_get Mk.sz l i hil
        refine Wp.runG [] (by kernel_rfl) (.inl (by kernel_rfl)) ?_
        simp (maxSteps := 2000000) (disch := first | omega | (simp only [AH.size_new, AH.size_put] <;> omega) | fail) only [amR Tryd.prog ro X, amS, seval, reduceCtorEq, ty3, ty4, ty9, ty27, ty109, h0, h1, h5, n1, n2, c1, c2]
        refine (eq_Ins _ (by omega) l[i] k[i] cs ds Fi Gi q1 q2 (by omega)).mono ?_
        rintro r A2 ⟨rfl, hE2⟩
        simp (maxSteps := 2000000) (disch := first | omega | (simp only [AH.size_new, AH.size_put] <;> omega) | fail) only [amR Tryd.prog ro X, amS, seval, reduceCtorEq, ty3, ty4, ty9, ty27, ty109]
        refine CondB.split (fun h => ?_) (fun h => ?_)
        · simp (maxSteps := 2000000) (disch := first | omega | (simp only [AH.size_new, AH.size_put] <;> omega) | fail) only [amR Tryd.prog ro X, amS, seval, reduceCtorEq, ty3, ty4, ty9, ty27, ty109]
          have : l ≠ k := by
            intro e
            subst e
            simp at h
          simp [this, hE.trans hE2]
        · simp (maxSteps := 2000000) (disch := first | omega | (simp only [AH.size_new, AH.size_put] <;> omega) | fail) only [amR Tryd.prog ro X, amS, seval, reduceCtorEq, ty3, ty4, ty9, ty27, ty109, h0, h1, h5]
          refine ⟨l.length - (i + 1), by omega, hE.trans hE2, i + 1, by omega, rfl, by simp, ?_⟩
          rw [List.take_succ_eq_append_getElem hil, List.take_succ_eq_append_getElem (by omega : i < k.length), heq]
          have : l[i] = k[i] := by simpa using h
          rw [this]
      · simp (maxSteps := 2000000) (disch := first | omega | (simp only [AH.size_new, AH.size_put] <;> omega) | fail) only [amR Tryd.prog ro X, amS, seval, reduceCtorEq, ty3, ty4, ty9, ty27, ty109]
        have : l = k := by
          have hi2 : i = l.length := by simp at h; omega
          subst hi2
          rw [List.take_length] at heq
          rw [hlk, List.take_length] at heq
          exact heq
        simp [this, hE]
theorem sz_Ins (A : AH) (hro : ro ≤ A.size) (x : TIns) (cs : List Value) (F : List Nat) (h : Dat.rep A x cs F) (hn : Mk.bd x) (left : Int) (hz : 0 ≤ left ∧ left ≤ 2097152) :
    ACalls Tryd.prog ro X 142 [.agg cs.toArray, .int .i64 left] A (fun r A' => r = .ret (.int .i64 (szR left (Mk.sz x))) ∧ Ext A A') := by
  obtain ⟨rfl, rfl, z1⟩ := rep_Ins.1 h
  have y1 := big_lt z1
  have hsz : Mk.sz x = 0 + (x.2.1.size + (0)) := rfl
  refine ACalls.enterQ (rs := [.tmp 4]) Tryd.func142 rfl (by kernel_rfl) rfl ?_
  simp (maxSteps := 2000000) (disch := first | omega | (simp only [AH.size_new, AH.size_put] <;> omega) | fail) only [amR Tryd.prog ro X, amS, seval, reduceCtorEq, ty3, ty9, ty187]
  refine CondB.split (fun h => ?_) (fun h => ?_)
  · have hc : left - (x.2.1.size : Nat) < 0 := by simpa using h
    simp (maxSteps := 2000000) (disch := first | omega | (simp only [AH.size_new, AH.size_put] <;> omega) | fail) only [amR Tryd.prog ro X, amS, seval, reduceCtorEq, ty3, ty9, ty187]
    exact ⟨(by rw [szR_neg (by omega : left - (Mk.sz x : Nat) < 0)]), by ((repeat' (first | exact Ext.refl _ | assumption | refine Ext.trans ?_ (Ext.new _ _) | refine Ext.put ?_ ?_ _ | refine Ext.trans ?_ (by assumption))) <;> (first | omega | (simp only [AH.size_new, AH.size_put] <;> omega)))⟩
  have c1 : ¬ (left - (x.2.1.size : Nat) < 0) := by simpa using h
  simp (maxSteps := 2000000) (disch := first | omega | (simp only [AH.size_new, AH.size_put] <;> omega) | fail) only [amR Tryd.prog ro X, amS, seval, reduceCtorEq, ty3, ty9, ty187]
  exact ⟨by rw [szR_pos (by omega : ¬ left - (Mk.sz x : Nat) < 0)]; congr 2 <;> omega, by ((repeat' (first | exact Ext.refl _ | assumption | refine Ext.trans ?_ (Ext.new _ _) | refine Ext.put ?_ ?_ _ | refine Ext.trans ?_ (by assumption))) <;> (first | omega | (simp only [AH.size_new, AH.size_put] <;> omega)))⟩
theorem szL_Ins (A : AH) (hro : ro ≤ A.size) (s : Sl) (l : List TIns) (F : List Nat) (hs : SlR A s l F) (hn : Mk.bd l) (left : Int) (hz : 0 ≤ left ∧ left ≤ 2097152) :
    ACalls Tryd.prog ro X 67 [s.v, .int .i64 left] A (fun r A' => r = .ret (.int .i64 (szR left (szL Mk.sz l))) ∧ Ext A A') := by
  have hl := hn.1
  have hw : Dat.w TIns = 3 := rfl
  refine ACalls.enterQ (rs := [.tmp 4]) Tryd.func67 rfl (by kernel_rfl) rfl ?_
  simp (maxSteps := 2000000) (disch := first | omega | (simp only [AH.size_new, AH.size_put] <;> omega) | fail) only [amR Tryd.prog ro X, amS, seval, reduceCtorEq, ty3, ty9, ty22, ty187, hs.len]
  refine CondB.split (fun h => ?_) (fun h => ?_)
  · simp (maxSteps := 2000000) (disch := first | omega | (simp only [AH.size_new, AH.size_put] <;> omega) | fail) only [amR Tryd.prog ro X, amS, seval, reduceCtorEq, ty3, ty9, ty22, ty187]
    have h2 : left - l.length < 0 := by simpa using h
    have := szL_length Mk.sz l
    exact ⟨by rw [szR_neg (by omega)], Ext.refl A⟩
  · simp (maxSteps := 2000000) (disch := first | omega | (simp only [AH.size_new, AH.size_put] <;> omega) | fail) only [amR Tryd.prog ro X, amS, seval, reduceCtorEq, ty3, ty9, ty22, ty187]
    refine Wp.loopC (fun n e A' => Ext A A' ∧ e 0 = s.v ∧ ∃ i : Nat, i ≤ l.length ∧ n = l.length - i ∧ e 5 = .int .i64 i ∧ e 1 = .int .i64 (left - szL Mk.sz (l.take i) + i - l.length) ∧ 0 ≤ left - szL Mk.sz (l.take i) + i - l.length) (l.length - 0) ?_ ?_
    · simp (maxSteps := 2000000) (disch := first | omega | (simp only [AH.size_new, AH.size_put] <;> omega) | fail) only [amV, amH, amQ, amL, amN Tryd.prog, amS, seval, reduceCtorEq, ty3, ty9, ty22, ty187]
      refine ⟨Ext.refl A, 0, by omega, rfl, rfl, ?_⟩
      have : 0 ≤ left - l.length := by simpa using h
      simp only [List.take_zero, szL_nil]
      exact ⟨by congr 1 <;> omega, by omega⟩
    · rintro n e A' ⟨hE, h0, i, hi, rfl, h5, h1, hle⟩
      have v1 := hE.size
      simp (maxSteps := 2000000) (disch := first | omega | (simp only [AH.size_new, AH.size_put] <;> omega) | fail) only [amR Tryd.prog ro X, amS, seval, reduceCtorEq, ty3, ty9, ty22, ty187, h0, h5, hs.len]
      refine CondB.split (fun h => ?_) (fun h => ?_)
      · have hil : i < l.length := by simp at h; omega
        obtain ⟨n1, b1, m1, i1, cs, Fi, c1, q1, _⟩ := (hs.ext hE).row hil
        rw [aRow_eq, hw] at c1
        have hst := szL_take_succ Mk.sz l i hil
        have hge := szL_take_le Mk.sz l (i + 1)
        have hge0 := szL_take_le Mk.sz l i
        have hti := szL_length Mk.sz (l.take i)
        rw [List.length_take, Nat.min_eq_left hi] at hti
        simp (maxSteps := 2000000) (disch := first | omega | (simp only [AH.size_new, AH.size_put] <;> omega) | fail) only [amR Tryd.prog ro X, amS, seval, reduceCtorEq, ty3, ty9, ty22, ty187, h0, h1, h5, n1, c1]
        refine (sz_Ins _ (by omega) l[i] cs Fi q1 (hn.2 _ (List.getElem_mem hil)) _ ⟨hle, by omega⟩).mono ?_
        rintro r A2 ⟨rfl, hE2⟩
        by_cases hc : left - szL Mk.sz (l.take i) + i - l.length - (Mk.sz l[i] : Nat) < 0
        · rw [szR_neg hc]
          simp (maxSteps := 2000000) (disch := first | omega | (simp only [AH.size_new, AH.size_put] <;> omega) | fail) only [amR Tryd.prog ro X, amS, seval, reduceCtorEq, ty3, ty9, ty22, ty187]
          exact ⟨by rw [szR_neg (by omega)], hE.trans hE2⟩
        · rw [szR_pos hc]
          simp (maxSteps := 2000000) (disch := first | omega | (simp only [AH.size_new, AH.size_put] <;> omega) | fail) only [amR Tryd.prog ro X, amS, seval, reduceCtorEq, ty3, ty9, ty22, ty187, h0, h5, hc]
          exact ⟨l.length - (i + 1), by omega, hE.trans hE2, i + 1, by omega, rfl, rfl, by congr 1 <;> omega, by omega⟩
      · have hil : i = l.length := by simp at h; omega
        subst hil
        rw [List.take_length] at h1 hle
        simp (maxSteps := 2000000) (disch := first | omega | (simp only [AH.size_new, AH.size_put] <;> omega) | fail) only [amR Tryd.prog ro X, amS, seval, reduceCtorEq, ty3, ty9, ty22, ty187, h1]
        exact ⟨by rw [szR_pos (by omega)]; congr 2; omega, hE⟩
theorem to_Program (A : AH) (hro : ro ≤ A.size) (x : TProgram) (cs : List Value) (F : List Nat) (h : Dat.rep A x cs F) (hz : Mk.sz x < 4294967296) :
    ACalls Tryd.prog ro X 16 [.agg cs.toArray] A (fun r A' => ∃ cs' F', r = .ret (.agg cs'.toArray) ∧ Dat.rep A' x cs' F' ∧ Fresh A F' A' ∧ Ext A A') := by
  obtain ⟨s1, G1, rfl, rfl, h1⟩ := rep_Program.1 h
  have hsz : Mk.sz x = szL Mk.sz x := rfl
  refine ACalls.enterQ (rs := [.cell 2 29]) Tryd.func16 rfl (by kernel_rfl) rfl ?_
  simp (maxSteps := 2000000) (disch := first | omega | (simp only [AH.size_new, AH.size_put] <;> omega) | fail) only [amR Tryd.prog ro X, amS, seval, reduceCtorEq, ty22, ty24, ty27, ty29, ty109, ty187]
  refine (toL_Ins _ (by first | omega | (simp only [AH.size_new, AH.size_put] <;> omega)) s1 _ _ (h1.ext (by ((repeat' (first | exact Ext.refl _ | assumption | refine Ext.trans ?_ (Ext.new _ _) | refine Ext.put ?_ ?_ _ | refine Ext.trans ?_ (by assumption))) <;> (first | omega | (simp only [AH.size_new, AH.size_put] <;> omega))))) (by omega)).mono ?_
  rintro r B1 ⟨t1, H1, rfl, q1, f1, hE1⟩
  have v1 := hE1.size
  try simp only [AH.size_new, AH.size_put] at v1
  simp (maxSteps := 2000000) (disch := first | omega | (simp only [AH.size_new, AH.size_put] <;> omega) | fail) only [amR Tryd.prog ro X, amS, seval, reduceCtorEq, ty22, ty24, ty27, ty29, ty109, ty187, hE1.get]
  exact ⟨_, _, rfl, rep_Program.2 ⟨t1, _, rfl, rfl, q1.low f1.lo (by ((repeat' (first | exact Low.refl _ _ | assumption | refine Low.new ?_ _ | refine Low.put ?_ ?_ _ | refine Low.trans ?_ (Ext.low (by assumption) _))) <;> (first | omega | (simp only [AH.size_new, AH.size_put] <;> omega))))⟩, f1.mono (by first | omega | (simp only [AH.size_new, AH.size_put] <;> omega)) (by first | omega | (simp only [AH.size_new, AH.size_put] <;> omega)), by ((repeat' (first | exact Ext.refl _ | assumption | refine Ext.trans ?_ (Ext.new _ _) | refine Ext.put ?_ ?_ _ | refine Ext.trans ?_ (by assumption))) <;> (first | omega | (simp only [AH.size_new, AH.size_put] <;> omega)))⟩
theorem eq_Program (A : AH) (hro : ro ≤ A.size) (x y : TProgram) (cs ds : List Value) (F F' : List Nat) (h : Dat.rep A x cs F) (h' : Dat.rep A y ds F') (hz : Mk.sz x < 4294967296) :
    ACalls Tryd.prog ro X 18 [.agg cs.toArray, .agg ds.toArray] A (fun r A' => r = .ret (.bool (decide (x = y))) ∧ Ext A A') := by
  obtain ⟨s1, G1, rfl, rfl, h1⟩ := rep_Program.1 h
  obtain ⟨s1', G1', rfl, rfl, h1'⟩ := rep_Program.1 h'
  have hsz : Mk.sz x = szL Mk.sz x := rfl
  refine ACalls.enterQ (rs := [.tmp 4]) Tryd.func18 rfl (by kernel_rfl) rfl ?_
  simp (maxSteps := 2000000) (disch := first | omega | (simp only [AH.size_new, AH.size_put] <;> omega) | fail) only [amR Tryd.prog ro X, amS, seval, reduceCtorEq, ty4, ty27, ty29, ty109]
  refine (eqL_Ins _ (by first | omega | (simp only [AH.size_new, AH.size_put] <;> omega)) s1 s1' _ _ _ _ (h1.ext (by ((repeat' (first | exact Ext.refl _ | assumption | refine Ext.trans ?_ (Ext.new _ _) | refine Ext.put ?_ ?_ _ | refine Ext.trans ?_ (by assumption))) <;> (first | omega | (simp only [AH.size_new, AH.size_put] <;> omega))))) (h1'.ext (by ((repeat' (first | exact Ext.refl _ | assumption | refine Ext.trans ?_ (Ext.new _ _) | refine Ext.put ?_ ?_ _ | refine Ext.trans ?_ (by assumption))) <;> (first | omega | (simp only [AH.size_new, AH.size_put] <;> omega))))) (by omega)).mono ?_
  rintro r B1 ⟨rfl, hE1⟩
  have v1 := hE1.size
  try simp only [AH.size_new, AH.size_put] at v1
  simp (maxSteps := 2000000) (disch := first | omega | (simp only [AH.size_new, AH.size_put] <;> omega) | fail) only [amR Tryd.prog ro X, amS, seval, reduceCtorEq, ty4, ty27, ty29, ty109, hE1.get]
  refine CondB.split (fun h => ?_) (fun h => ?_)
  · have hc : ¬ x = y := by simpa using h
    simp (maxSteps := 2000000) (disch := first | omega | (simp only [AH.size_new, AH.size_put] <;> omega) | fail) only [amR Tryd.prog ro X, amS, seval, reduceCtorEq, ty4, ty27, ty29, ty109, hE1.get]
    exact ⟨by rw [decide_eq_false (fun e => hc (by rw [e]))], by ((repeat' (first | exact Ext.refl _ | assumption | refine Ext.trans ?_ (Ext.new _ _) | refine Ext.put ?_ ?_ _ | refine Ext.trans ?_ (by assumption))) <;> (first | omega | (simp only [AH.size_new, AH.size_put] <;> omega)))⟩
  have c1 : x = y := by simpa using h
  simp (maxSteps := 2000000) (disch := first | omega | (simp only [AH.size_new, AH.size_put] <;> omega) | fail) only [amR Tryd.prog ro X, amS, seval, reduceCtorEq, ty4, ty27, ty29, ty109, hE1.get]
  exact ⟨by rw [decide_eq_true (c1)], by ((repeat' (first | exact Ext.refl _ | assumption | refine Ext.trans ?_ (Ext.new _ _) | refine Ext.put ?_ ?_ _ | refine Ext.trans ?_ (by assumption))) <;> (first | omega | (simp only [AH.size_new, AH.size_put] <;> omega)))⟩
theorem sz_Program (A : AH) (hro : ro ≤ A.size) (x : TProgram) (cs : List Value) (F : List Nat) (h : Dat.rep A x cs F) (hn : Mk.bd x) (left : Int) (hz : 0 ≤ left ∧ left ≤ 2097152) :
    ACalls Tryd.prog ro X 14 [.agg cs.toArray, .int .i64 left] A (fun r A' => r = .ret (.int .i64 (szR left (Mk.sz x))) ∧ Ext A A') := by
  obtain ⟨s1, G1, rfl, rfl, h1⟩ := rep_Program.1 h
  have hsz : Mk.sz x = szL Mk.sz x := rfl
  refine ACalls.enterQ (rs := [.tmp 4]) Tryd.func14 rfl (by kernel_rfl) rfl ?_
  simp (maxSteps := 2000000) (disch := first | omega | (simp only [AH.size_new, AH.size_put] <;> omega) | fail) only [amR Tryd.prog ro X, amS, seval, reduceCtorEq, ty3, ty22, ty24, ty187]
  refine (szL_Ins _ (by first | omega | (simp only [AH.size_new, AH.size_put] <;> omega)) s1 _ _ (h1.ext (by ((repeat' (first | exact Ext.refl _ | assumption | refine Ext.trans ?_ (Ext.new _ _) | refine Ext.put ?_ ?_ _ | refine Ext.trans ?_ (by assumption))) <;> (first | omega | (simp only [AH.size_new, AH.size_put] <;> omega))))) hn (left) (by omega)).mono ?_
  rintro r B1 ⟨rfl, hE1⟩
  have v1 := hE1.size
  try simp only [AH.size_new, AH.size_put] at v1
  by_cases c1 : left - (szL Mk.sz x : Nat) < 0
  · rw [szR_neg c1]
    simp (maxSteps := 2000000) (disch := first | omega | (simp only [AH.size_new, AH.size_put] <;> omega) | fail) only [amR Tryd.prog ro X, amS, seval, reduceCtorEq, ty3, ty22, ty24, ty187, hE1.get]
    exact ⟨(by rw [szR_neg (by omega : left - (Mk.sz x : Nat) < 0)]), by ((repeat' (first | exact Ext.refl _ | assumption | refine Ext.trans ?_ (Ext.new _ _) | refine Ext.put ?_ ?_ _ | refine Ext.trans ?_ (by assumption))) <;> (first | omega | (simp only [AH.size_new, AH.size_put] <;> omega)))⟩
  rw [szR_pos c1]
  simp (maxSteps := 2000000) (disch := first | omega | (simp only [AH.size_new, AH.size_put] <;> omega) | fail) only [amR Tryd.prog ro X, amS, seval, reduceCtorEq, ty3, ty22, ty24, ty187, hE1.get, c1]
  exact ⟨by rw [szR_pos (by omega : ¬ left - (Mk.sz x : Nat) < 0)]; congr 2 <;> omega, by ((repeat' (first | exact Ext.refl _ | assumption | refine Ext.trans ?_ (Ext.new _ _) | refine Ext.put ?_ ?_ _ | refine Ext.trans ?_ (by assumption))) <;> (first | omega | (simp only [AH.size_new, AH.size_put] <;> omega)))⟩
theorem to_Source (A : AH) (hro : ro ≤ A.size) (x : TSource) (cs : List Value) (F : List Nat) (h : Dat.rep A x cs F) (hz : Mk.sz x < 4294967296) :
    ACalls Tryd.prog ro X 148 [.agg cs.toArray] A (fun r A' => ∃ cs' F', r = .ret (.agg cs'.toArray) ∧ Dat.rep A' x cs' F' ∧ Fresh A F' A' ∧ Ext A A') := by
  obtain ⟨rfl, rfl, z1, z2⟩ := rep_Source.1 h
  have y1 := big_lt z1
  have y2 := big_lt z2
  have hsz : Mk.sz x = x.1.size + (x.2.size) := rfl
  refine ACalls.enterQ (rs := [.cell 2 116]) Tryd.func148 rfl (by kernel_rfl) rfl ?_
  simp (maxSteps := 2000000) (disch := first | omega | (simp only [AH.size_new, AH.size_put] <;> omega) | fail) only [amR Tryd.prog ro X, amS, seval, reduceCtorEq, ty9, ty116, ty196]
  exact ⟨_, _, rfl, rep_Source.2 ⟨rfl, rfl, z1, z2⟩, Fresh.nil _ _, by ((repeat' (first | exact Ext.refl _ | assumption | refine Ext.trans ?_ (Ext.new _ _) | refine Ext.put ?_ ?_ _ | refine Ext.trans ?_ (by assumption))) <;> (first | omega | (simp only [AH.size_new, AH.size_put] <;> omega)))⟩
theorem toL_Source (A : AH) (hro : ro ≤ A.size) (s : Sl) (l : List TSource) (F : List Nat) (hs : SlR A s l F) (hz : szL Mk.sz l < 4294967296) :
    ACalls Tryd.prog ro X 76 [s.v] A (fun r A' => ∃ t G, r = .ret t.v ∧ SlR A' t l G ∧ Fresh A G A' ∧ Ext A A') := by
  have hl := szL_length Mk.sz l
  refine ACalls.enterQ (rs := [.tmp 2]) Tryd.func76 rfl (by kernel_rfl) rfl ?_
  simp (maxSteps := 2000000) (disch := first | omega | (simp only [AH.size_new, AH.size_put] <;> omega) | fail) only [amR Tryd.prog ro X, amS, seval, reduceCtorEq, ty3, ty9, ty33, ty39, ty116, ty196, hs.len]
  refine Wp.loopC (fun n e A' => Ext A A' ∧ A.size < A'.size ∧ e 0 = s.v ∧ e 3 = (Sl.mk false A.size 0 l.length l.length).v ∧ ∃ i : Nat, i ≤ l.length ∧ n = l.length - i ∧ e 4 = .int .i64 i ∧ ∃ G, Part A' A.size l.length (l.take i) G ∧ Fresh (A.new .dead) G A') (l.length - 0) ?_ ?_
  · simp (maxSteps := 2000000) (disch := first | omega | (simp only [AH.size_new, AH.size_put] <;> omega) | fail) only [amV, amH, amQ, amL, amN Tryd.prog, amS, seval, reduceCtorEq, ty3, ty9, ty33, ty39, ty116, ty196]
    refine ⟨Ext.new A _, by omega, 0, by omega, rfl, rfl, [], ?_, Fresh.nil _ _⟩
    rw [List.take_zero]
    exact Part.start (by simp [AH.size_new]) (AH.get_new_self _ _) (fill_flat _ _ _ rfl)
  · rintro n e A' ⟨hE, hlt, h0, h3, i, hi, rfl, h4, G, hp, hf⟩
    have hs' := hs.ext hE
    simp (maxSteps := 2000000) (disch := first | omega | (simp only [AH.size_new, AH.size_put] <;> omega) | fail) only [amR Tryd.prog ro X, amS, seval, reduceCtorEq, ty3, ty9, ty33, ty39, ty116, ty196, h0, h3, h4, hs.len]
    refine CondB.split (fun h => ?_) (fun h => ?_)
    · have hil : i < l.length := by simp at h; omega
      obtain ⟨n1, b1, m1, i1, cs, Fi, c1, q1, _⟩ := hs'.row hil
      rw [aRow_eq] at c1
      have hw : Dat.w TSource = 2 := rfl
      rw [hw] at c1
      have hzi := szL_get Mk.sz l i hil
      simp (maxSteps := 2000000) (disch := first | omega | (simp only [AH.size_new, AH.size_put] <;> omega) | fail) only [amR Tryd.prog ro X, amS, seval, reduceCtorEq, ty3, ty9, ty33, ty39, ty116, ty196, h0, h3, h4, n1, c1]
      refine (to_Source _ (by omega) l[i] cs Fi q1 (by omega)).mono ?_
      rintro r A2 ⟨cs', F', rfl, q2, f2, hE2⟩
      have v2 := hE2.size
      have hp2 := hp.ext hE2
      have hl2 : cs'.length = 2 := Dat.len q2
      obtain ⟨hlt2, ⟨c, g1, g2, g3⟩, hle⟩ := id hp2
      have hwl : (i + 1) * 2 ≤ l.length * 2 := Nat.mul_le_mul_right _ hil
      rw [hw] at g1 g2
      simp (maxSteps := 2000000) (disch := first | omega | (simp only [AH.size_new, AH.size_put] <;> omega) | fail) only [amR Tryd.prog ro X, amS, seval, reduceCtorEq, ty3, ty9, ty33, ty39, ty116, ty196, h0, h3, h4, g1, hl2]
      refine ⟨l.length - (i + 1), by omega, (hE.trans hE2).put (Nat.le_refl _) _, by omega, i + 1, by omega, rfl, by simp, G ++ F', ?_, (hf.mono (Nat.le_refl _) (Nat.le_refl _)).append (f2.mono (Nat.le_refl _) (Nat.le_refl _)) (by simp [AH.size_new]; omega) v2⟩
      have := hp2.store (fun hm => by have := hf.lo _ hm; simp [AH.size_new] at this; omega) q2 (fun hm => by have := f2.lo _ hm; omega) (by simp; omega) g1
      rw [List.take_succ_eq_append_getElem hil]
      rw [List.length_take, Nat.min_eq_left hi, hw] at this
      exact this
    · have hil : i = l.length := by simp at h; omega
      subst hil
      simp (maxSteps := 2000000) (disch := first | omega | (simp only [AH.size_new, AH.size_put] <;> omega) | fail) only [amR Tryd.prog ro X, amS, seval, reduceCtorEq, ty3, ty9, ty33, ty39, ty116, ty196, h3]
      rw [List.take_length] at hp
      exact ⟨_, _, rfl, hp.done rfl (by unfold BIG; omega), Fresh.cons (Nat.le_refl _) (by simp [AH.size_new]) hf (by simp only [AH.size_new]; omega) (by simp only [AH.size_new]; omega), hE⟩
theorem eq_Source (A : AH) (hro : ro ≤ A.size) (x y : TSource) (cs ds : List Value) (F F' : List Nat) (h : Dat.rep A x cs F) (h' : Dat.rep A y ds F') (hz : Mk.sz x < 4294967296) :
    ACalls Tryd.prog ro X 150 [.agg cs.toArray, .agg ds.toArray] A (fun r A' => r = .ret (.bool (decide (x = y))) ∧ Ext A A') := by
  obtain ⟨rfl, rfl, z1, z2⟩ := rep_Source.1 h
  obtain ⟨rfl, rfl, z1', z2'⟩ := rep_Source.1 h'
  have hsz : Mk.sz x = x.1.size + (x.2.size) := rfl
  refine ACalls.enterQ (rs := [.tmp 4]) Tryd.func150 rfl (by kernel_rfl) rfl ?_
  simp (maxSteps := 2000000) (disch := first | omega | (simp only [AH.size_new, AH.size_put] <;> omega) | fail) only [amR Tryd.prog ro X, amS, seval, reduceCtorEq, ty9, ty116]
  refine CondB.split (fun h => ?_) (fun h => ?_)
  · have hc : ¬ x.1 = y.1 := by simpa using h
    simp (maxSteps := 2000000) (disch := first | omega | (simp only [AH.size_new, AH.size_put] <;> omega) | fail) only [amR Tryd.prog ro X, amS, seval, reduceCtorEq, ty9, ty116]
    exact ⟨by rw [decide_eq_false (fun e => hc (by rw [e]))], by ((repeat' (first | exact Ext.refl _ | assumption | refine Ext.trans ?_ (Ext.new _ _) | refine Ext.put ?_ ?_ _ | refine Ext.trans ?_ (by assumption))) <;> (first | omega | (simp only [AH.size_new, AH.size_put] <;> omega)))⟩
  have c1 : x.1 = y.1 := by simpa using h
  simp (maxSteps := 2000000) (disch := first | omega | (simp only [AH.size_new, AH.size_put] <;> omega) | fail) only [amR Tryd.prog ro X, amS, seval, reduceCtorEq, ty9, ty116]
  refine CondB.split (fun h => ?_) (fun h => ?_)
  · have hc : ¬ x.2 = y.2 := by simpa using h
    simp (maxSteps := 2000000) (disch := first | omega | (simp only [AH.size_new, AH.size_put] <;> omega) | fail) only [amR Tryd.prog ro X, amS, seval, reduceCtorEq, ty9, ty116]
    exact ⟨by rw [decide_eq_false (fun e => hc (by rw [e]))], by ((repeat' (first | exact Ext.refl _ | assumption | refine Ext.trans ?_ (Ext.new _ _) | refine Ext.put ?_ ?_ _ | refine Ext.trans ?_ (by assumption))) <;> (first | omega | (simp only [AH.size_new, AH.size_put] <;> omega)))⟩
  have c2 : x.2 = y.2 := by simpa using h
  simp (maxSteps := 2000000) (disch := first | omega | (simp only [AH.size_new, AH.size_put] <;> omega) | fail) only [amR Tryd.prog ro X, amS, seval, reduceCtorEq, ty9, ty116]
  exact ⟨by rw [decide_eq_true (Prod.ext c1 (c2))], by ((repeat' (first | exact Ext.refl _ | assumption | refine Ext.trans ?_ (Ext.new _ _) | refine Ext.put ?_ ?_ _ | refine Ext.trans ?_ (by assumption))) <;> (first | omega | (simp only [AH.size_new, AH.size_put] <;> omega)))⟩
theorem eqL_Source (A : AH) (hro : ro ≤ A.size) (s t : Sl) (l k : List TSource) (F G : List Nat) (hs : SlR A s l F) (ht : SlR A t k G) (hz : szL Mk.sz l < 4294967296) :
    ACalls Tryd.prog ro X 79 [s.v, t.v] A (fun r A' => r = .ret (.bool (decide (l = k))) ∧ Ext A A') := by
  have hl := szL_length Mk.sz l
  have hw : Dat.w TSource = 2 := rfl
  refine ACalls.enterQ (rs := [.tmp 4]) Tryd.func79 rfl (by kernel_rfl) rfl ?_
  simp (maxSteps := 2000000) (disch := first | omega | (simp only [AH.size_new, AH.size_put] <;> omega) | fail) only [amR Tryd.prog ro X, amS, seval, reduceCtorEq, ty3, ty4, ty9, ty39, ty116, hs.len, ht.len]
  refine CondB.split (fun h => ?_) (fun h => ?_)
  · simp (maxSteps := 2000000) (disch := first | omega | (simp only [AH.size_new, AH.size_put] <;> omega) | fail) only [amR Tryd.prog ro X, amS, seval, reduceCtorEq, ty3, ty4, ty9, ty39, ty116]
    have : l ≠ k := fun e => by simp [e] at h
    simp [this, Ext.refl]
  · simp (maxSteps := 2000000) (disch := first | omega | (simp only [AH.size_new, AH.size_put] <;> omega) | fail) only [amR Tryd.prog ro X, amS, seval, reduceCtorEq, ty3, ty4, ty9, ty39, ty116]
    have hlk : l.length = k.length := by simp at h; omega
    refine Wp.loopC (fun n e A' => Ext A A' ∧ e 0 = s.v ∧ e 1 = t.v ∧ ∃ i : Nat, i ≤ l.length ∧ n = l.length - i ∧ e 5 = .int .i64 i ∧ l.take i = k.take i) (l.length - 0) ?_ ?_
    · simp (maxSteps := 2000000) (disch := first | omega | (simp only [AH.size_new, AH.size_put] <;> omega) | fail) only [amV, amH, amQ, amL, amN Tryd.prog, amS, seval, reduceCtorEq, ty3, ty4, ty9, ty39, ty116]
      exact ⟨Ext.refl A, 0, by simp, rfl, rfl, by simp⟩
    · rintro n e A' ⟨hE, h0, h1, i, hi, rfl, h5, heq⟩
      have v1 := hE.size
      simp (maxSteps := 2000000) (disch := first | omega | (simp only [AH.size_new, AH.size_put] <;> omega) | fail) only [amR Tryd.prog ro X, amS, seval, reduceCtorEq, ty3, ty4, ty9, ty39, ty116, h0, h1, h5, hs.len]
      refine CondB.split (fun h => ?_) (fun h => ?_)
      · simp (maxSteps := 2000000) (disch := first | omega | (simp only [AH.size_new, AH.size_put] <;> omega) | fail) only [amR Tryd.prog ro X, amS, seval, reduceCtorEq, ty3, ty4, ty9, ty39, ty116]
        have hil : i < l.length := by simp at h; omega
        obtain ⟨n1, b1, m1, i1, cs, Fi, c1, q1, _⟩ := (hs.ext hE).row hil
        obtain ⟨n2, b2, m2, i2, ds, Gi, c2, q2, _⟩ := (ht.ext hE).row (i := i) (by omega)
        rw [aRow_eq, hw] at c1 c2
        have hzi := szL_get Mk.sz l i hil
        refine Wp.runG [] (by kernel_rfl) (.inl (by kernel_rfl)) ?_
        simp (maxSteps := 2000000) (disch := first | omega | (simp only [AH.size_new, AH.size_put] <;> omega) | fail) only [amR Tryd.prog ro X, amS, seval, reduceCtorEq, ty3, ty4, ty9, ty39, ty116, h0, h1, h5, n1, n2, c1, c2]
        refine (eq_Source _ (by omega) l[i] k[i] cs ds Fi Gi q1 q2 (by omega)).mono ?_
        rintro r A2 ⟨rfl, hE2⟩
        simp (maxSteps := 2000000) (disch := first | omega | (simp only [AH.size_new, AH.size_put] <;> omega) | fail) only [amR Tryd.prog ro X, amS, seval, reduceCtorEq, ty3, ty4, ty9, ty39, ty116]
        refine CondB.split (fun h => ?_) (fun h => ?_)
        · simp (maxSteps := 2000000) (disch := first | omega | (simp only [AH.size_new, AH.size_put] <;> omega) | fail) only [amR Tryd.prog ro X, amS, seval, reduceCtorEq, ty3, ty4, ty9, ty39, ty116]
          have : l ≠ k := by
            intro e
            subst e
            simp at h
          simp [this, hE.trans hE2]
        · simp (maxSteps := 2000000) (disch := first | omega | (simp only [AH.size_new, AH.size_put] <;> omega) | fail) only [amR Tryd.prog ro X, amS, seval, reduceCtorEq, ty3, ty4, ty9, ty39, ty116, h0, h1, h5]
          refine ⟨l.length - (i + 1), by omega, hE.trans hE2, i + 1, by omega, rfl, by simp, ?_⟩
          rw [List.take_succ_eq_append_getElem hil, List.take_succ_eq_append_getElem (by omega : i < k.length), heq]
          have : l[i] = k[i] := by simpa using h
          rw [this]
      · simp (maxSteps := 2000000) (disch := first | omega | (simp only [AH.size_new, AH.size_put] <;> omega) | fail) only [amR Tryd.prog ro X, amS, seval, reduceCtorEq, ty3, ty4, ty9, ty39, ty116]
        have : l = k := by
          have hi2 : i = l.length := by simp at h; omega
          subst hi2
          rw [List.take_length] at heq
          rw [hlk, List.take_length] at heq
          exact heq
        simp [this, hE]
theorem sz_Source (A : AH) (hro : ro ≤ A.size) (x : TSource) (cs : List Value) (F : List Nat) (h : Dat.rep A x cs F) (hn : Mk.bd x) (left : Int) (hz : 0 ≤ left ∧ left ≤ 2097152) :
    ACalls Tryd.prog ro X 146 [.agg cs.toArray, .int .i64 left] A (fun r A' => r = .ret (.int .i64 (szR left (Mk.sz x))) ∧ Ext A A') := by
  obtain ⟨rfl, rfl, z1, z2⟩ := rep_Source.1 h
  have y1 := big_lt z1
  have y2 := big_lt z2
  have hsz : Mk.sz x = x.1.size + (x.2.size) := rfl
  refine ACalls.enterQ (rs := [.tmp 4]) Tryd.func146 rfl (by kernel_rfl) rfl ?_
  simp (maxSteps := 2000000) (disch := first | omega | (simp only [AH.size_new, AH.size_put] <;> omega) | fail) only [amR Tryd.prog ro X, amS, seval, reduceCtorEq, ty3, ty9, ty196]
  refine CondB.split (fun h => ?_) (fun h => ?_)
  · have hc : left - (x.1.size : Nat) < 0 := by simpa using h
    simp (maxSteps := 2000000) (disch := first | omega | (simp only [AH.size_new, AH.size_put] <;> omega) | fail) only [amR Tryd.prog ro X, amS, seval, reduceCtorEq, ty3, ty9, ty196]
    exact ⟨(by rw [szR_neg (by omega : left - (Mk.sz x : Nat) < 0)]), by ((repeat' (first | exact Ext.refl _ | assumption | refine Ext.trans ?_ (Ext.new _ _) | refine Ext.put ?_ ?_ _ | refine Ext.trans ?_ (by assumption))) <;> (first | omega | (simp only [AH.size_new, AH.size_put] <;> omega)))⟩
  have c1 : ¬ (left - (x.1.size : Nat) < 0) := by simpa using h
  simp (maxSteps := 2000000) (disch := first | omega | (simp only [AH.size_new, AH.size_put] <;> omega) | fail) only [amR Tryd.prog ro X, amS, seval, reduceCtorEq, ty3, ty9, ty196]
  refine CondB.split (fun h => ?_) (fun h => ?_)
  · have hc : left - (x.1.size : Nat) - (x.2.size : Nat) < 0 := by simpa using h
    simp (maxSteps := 2000000) (disch := first | omega | (simp only [AH.size_new, AH.size_put] <;> omega) | fail) only [amR Tryd.prog ro X, amS, seval, reduceCtorEq, ty3, ty9, ty196]
    exact ⟨(by rw [szR_neg (by omega : left - (Mk.sz x : Nat) < 0)]), by ((repeat' (first | exact Ext.refl _ | assumption | refine Ext.trans ?_ (Ext.new _ _) | refine Ext.put ?_ ?_ _ | refine Ext.trans ?_ (by assumption))) <;> (first | omega | (simp only [AH.size_new, AH.size_put] <;> omega)))⟩
  have c2 : ¬ (left - (x.1.size : Nat) - (x.2.size : Nat) < 0) := by simpa using h
  simp (maxSteps := 2000000) (disch := first | omega | (simp only [AH.size_new, AH.size_put] <;> omega) | fail) only [amR Tryd.prog ro X, amS, seval, reduceCtorEq, ty3, ty9, ty196]
  exact ⟨by rw [szR_pos (by omega : ¬ left - (Mk.sz x : Nat) < 0)]; congr 2 <;> omega, by ((repeat' (first | exact Ext.refl _ | assumption | refine Ext.trans ?_ (Ext.new _ _) | refine Ext.put ?_ ?_ _ | refine Ext.trans ?_ (by assumption))) <;> (first | omega | (simp only [AH.size_new, AH.size_put] <;> omega)))⟩
theorem szL_Source (A : AH) (hro : ro ≤ A.size) (s : Sl) (l : List TSource) (F : List Nat) (hs : SlR A s l F) (hn : Mk.bd l) (left : Int) (hz : 0 ≤ left ∧ left ≤ 2097152) :
    ACalls Tryd.prog ro X 72 [s.v, .int .i64 left] A (fun r A' => r = .ret (.int .i64 (szR left (szL Mk.sz l))) ∧ Ext A A') := by
  have hl := hn.1
  have hw : Dat.w TSource = 2 := rfl
  refine ACalls.enterQ (rs := [.tmp 4]) Tryd.func72 rfl (by kernel_rfl) rfl ?_
  simp (maxSteps := 2000000) (disch := first | omega | (simp only [AH.size_new, AH.size_put] <;> omega) | fail) only [amR Tryd.prog ro X, amS, seval, reduceCtorEq, ty3, ty9, ty33, ty196, hs.len]
  refine CondB.split (fun h => ?_) (fun h => ?_)
  · simp (maxSteps := 2000000) (disch := first | omega | (simp only [AH.size_new, AH.size_put] <;> omega) | fail) only [amR Tryd.prog ro X, amS, seval, reduceCtorEq, ty3, ty9, ty33, ty196]
    have h2 : left - l.length < 0 := by simpa using h
    have := szL_length Mk.sz l
    exact ⟨by rw [szR_neg (by omega)], Ext.refl A⟩
  · simp (maxSteps := 2000000) (disch := first | omega | (simp only [AH.size_new, AH.size_put] <;> omega) | fail) only [amR Tryd.prog ro X, amS, seval, reduceCtorEq, ty3, ty9, ty33, ty196]
    refine Wp.loopC (fun n e A' => Ext A A' ∧ e 0 = s.v ∧ ∃ i : Nat, i ≤ l.length ∧ n = l.length - i ∧ e 5 = .int .i64 i ∧ e 1 = .int .i64 (left - szL Mk.sz (l.take i) + i - l.length) ∧ 0 ≤ left - szL Mk.sz (l.take i) + i - l.length) (l.length - 0) ?_ ?_
    · simp (maxSteps := 2000000) (disch := first | omega | (simp only [AH.size_new, AH.size_put] <;> omega) | fail) only [amV, amH, amQ, amL, amN Tryd.prog, amS, seval, reduceCtorEq, ty3, ty9, ty33, ty196]
      refine ⟨Ext.refl A, 0, by omega, rfl, rfl, ?_⟩
      have : 0 ≤ left - l.length := by simpa using h
      simp only [List.take_zero, szL_nil]
      exact ⟨by congr 1 <;> omega, by omega⟩
    · rintro n e A' ⟨hE, h0, i, hi, rfl, h5, h1, hle⟩
      have v1 := hE.size
      simp (maxSteps := 2000000) (disch := first | omega | (simp only [AH.size_new, AH.size_put] <;> omega) | fail) only [amR Tryd.prog ro X, amS, seval, reduceCtorEq, ty3, ty9, ty33, ty196, h0, h5, hs.len]
      refine CondB.split (fun h => ?_) (fun h => ?_)
      · have hil : i < l.length := by simp at h; omega
        obtain ⟨n1, b1, m1, i1, cs, Fi, c1, q1, _⟩ := (hs.ext hE).row hil
        rw [aRow_eq, hw] at c1
        have hst := szL_take_succ Mk.sz l i hil
        have hge := szL_take_le Mk.sz l (i + 1)
        have hge0 := szL_take_le Mk.sz l i
        have hti := szL_length Mk.sz (l.take i)
        rw [List.length_take, Nat.min_eq_left hi] at hti
        simp (maxSteps := 2000000) (disch := first | omega | (simp only [AH.size_new, AH.size_put] <;> omega) | fail) only [amR Tryd.prog ro X, amS, seval, reduceCtorEq, ty3, ty9, ty33, ty196, h0, h1, h5, n1, c1]
        refine (sz_Source _ (by omega) l[i] cs Fi q1 (hn.2 _ (List.getElem_mem hil)) _ ⟨hle, by omega⟩).mono ?_
        rintro r A2 ⟨rfl, hE2⟩
        by_cases hc : left - szL Mk.sz (l.take i) + i - l.length - (Mk.sz l[i] : Nat) < 0
        · rw [szR_neg hc]
          simp (maxSteps := 2000000) (disch := first | omega | (simp only [AH.size_new, AH.size_put] <;> omega) | fail) only [amR Tryd.prog ro X, amS, seval, reduceCtorEq, ty3, ty9, ty33, ty196]
          exact ⟨by rw [szR_neg (by omega)], hE.trans hE2⟩
        · rw [szR_pos hc]
          simp (maxSteps := 2000000) (disch := first | omega | (simp only [AH.size_new, AH.size_put] <;> omega) | fail) only [amR Tryd.prog ro X, amS, seval, reduceCtorEq, ty3, ty9, ty33, ty196, h0, h5, hc]
          exact ⟨l.length - (i + 1), by omega, hE.trans hE2, i + 1, by omega, rfl, rfl, by congr 1 <;> omega, by omega⟩
      · have hil : i = l.length := by simp at h; omega
        subst hil
        rw [List.take_length] at h1 hle
        simp (maxSteps := 2000000) (disch := first | omega | (simp only [AH.size_new, AH.size_put] <;> omega) | fail) only [amR Tryd.prog ro X, amS, seval, reduceCtorEq, ty3, ty9, ty33, ty196, h1]
        exact ⟨by rw [szR_pos (by omega)]; congr 2; omega, hE⟩
theorem to_Target (A : AH) (hro : ro ≤ A.size) (x : TTarget) (cs : List Value) (F : List Nat) (h : Dat.rep A x cs F) (hz : Mk.sz x < 4294967296) :
    ACalls Tryd.prog ro X 149 [.agg cs.toArray] A (fun r A' => ∃ cs' F', r = .ret (.agg cs'.toArray) ∧ Dat.rep A' x cs' F' ∧ Fresh A F' A' ∧ Ext A A') := by
  obtain ⟨s1, G1, rfl, rfl, z1, h1⟩ := rep_Target.1 h
  have y1 := big_lt z1
  have hsz : Mk.sz x = x.1.size + ((szL Mk.sz x.2)) := rfl
  refine ACalls.enterQ (rs := [.cell 2 118]) Tryd.func149 rfl (by kernel_rfl) rfl ?_
  simp (maxSteps := 2000000) (disch := first | omega | (simp only [AH.size_new, AH.size_put] <;> omega) | fail) only [amR Tryd.prog ro X, amS, seval, reduceCtorEq, ty9, ty22, ty24, ty27, ty29, ty118, ty199]
  refine (to_Program _ (by first | omega | (simp only [AH.size_new, AH.size_put] <;> omega)) x.2 _ _ (rep_Program.2 ⟨s1, _, rfl, rfl, h1.ext (by ((repeat' (first | exact Ext.refl _ | assumption | refine Ext.trans ?_ (Ext.new _ _) | refine Ext.put ?_ ?_ _ | refine Ext.trans ?_ (by assumption))) <;> (first | omega | (simp only [AH.size_new, AH.size_put] <;> omega))))⟩) (by show szL Mk.sz _ < _; omega)).mono ?_
  rintro r B1 ⟨c1, H1, rfl, q1', f1, hE1⟩
  obtain ⟨t1, _, rfl, rfl, q1⟩ := rep_Program.1 q1'
  have v1 := hE1.size
  try simp only [AH.size_new, AH.size_put] at v1
  simp (maxSteps := 2000000) (disch := first | omega | (simp only [AH.size_new, AH.size_put] <;> omega) | fail) only [amR Tryd.prog ro X, amS, seval, reduceCtorEq, ty9, ty22, ty24, ty27, ty29, ty118, ty199, hE1.get]
  exact ⟨_, _, rfl, rep_Target.2 ⟨t1, _, rfl, rfl, z1, q1.low f1.lo (by ((repeat' (first | exact Low.refl _ _ | assumption | refine Low.new ?_ _ | refine Low.put ?_ ?_ _ | refine Low.trans ?_ (Ext.low (by assumption) _))) <;> (first | omega | (simp only [AH.size_new, AH.size_put] <;> omega))))⟩, f1.mono (by first | omega | (simp only [AH.size_new, AH.size_put] <;> omega)) (by first | omega | (simp only [AH.size_new, AH.size_put] <;> omega)), by ((repeat' (first | exact Ext.refl _ | assumption | refine Ext.trans ?_ (Ext.new _ _) | refine Ext.put ?_ ?_ _ | refine Ext.trans ?_ (by assumption))) <;> (first | omega | (simp only [AH.size_new, AH.size_put] <;> omega)))⟩
theorem toL_Target (A : AH) (hro : ro ≤ A.size) (s : Sl) (l : List TTarget) (F : List Nat) (hs : SlR A s l F) (hz : szL Mk.sz l < 4294967296) :
    ACalls Tryd.prog ro X 77 [s.v] A (fun r A' => ∃ t G, r = .ret t.v ∧ SlR A' t l G ∧ Fresh A G A' ∧ Ext A A') := by
  have hl := szL_length Mk.sz l
  refine ACalls.enterQ (rs := [.tmp 2]) Tryd.func77 rfl (by kernel_rfl) rfl ?_
  simp (maxSteps := 2000000) (disch := first | omega | (simp only [AH.size_new, AH.size_put] <;> omega) | fail) only [amR Tryd.prog ro X, amS, seval, reduceCtorEq, ty3, ty9, ty24, ty29, ty34, ty40, ty118, ty199, hs.len]
  refine Wp.loopC (fun n e A' => Ext A A' ∧ A.size < A'.size ∧ e 0 = s.v ∧ e 3 = (Sl.mk false A.size 0 l.length l.length).v ∧ ∃ i : Nat, i ≤ l.length ∧ n = l.length - i ∧ e 4 = .int .i64 i ∧ ∃ G, Part A' A.size l.length (l.take i) G ∧ Fresh (A.new .dead) G A') (l.length - 0) ?_ ?_
  · simp (maxSteps := 2000000) (disch := first | omega | (simp only [AH.size_new, AH.size_put] <;> omega) | fail) only [amV, amH, amQ, amL, amN Tryd.prog, amS, seval, reduceCtorEq, ty3, ty9, ty24, ty29, ty34, ty40, ty118, ty199]
    refine ⟨Ext.new A _, by omega, 0, by omega, rfl, rfl, [], ?_, Fresh.nil _ _⟩
    rw [List.take_zero]
    exact Part.start (by simp [AH.size_new]) (AH.get_new_self _ _) (fill_flat _ _ _ rfl)
  · rintro n e A' ⟨hE, hlt, h0, h3, i, hi, rfl, h4, G, hp, hf⟩
    have hs' := hs.ext hE
    simp (maxSteps := 2000000) (disch := first | omega | (simp only [AH.size_new, AH.size_put] <;> omega) | fail) only [amR Tryd.prog ro X, amS, seval, reduceCtorEq, ty3, ty9, ty24, ty29, ty34, ty40, ty118, ty199, h0, h3, h4, hs.len]
    refine CondB.split (fun h => ?_) (fun h => ?_)
    · have hil : i < l.length := by simp at h; omega
      obtain ⟨n1, b1, m1, i1, cs, Fi, c1, q1, _⟩ := hs'.row hil
      rw [aRow_eq] at c1
      have hw : Dat.w TTarget = 2 := rfl
      rw [hw] at c1
      have hzi := szL_get Mk.sz l i hil
      simp (maxSteps := 2000000) (disch := first | omega | (simp only [AH.size_new, AH.size_put] <;> omega) | fail) only [amR Tryd.prog ro X, amS, seval, reduceCtorEq, ty3, ty9, ty24, ty29, ty34, ty40, ty118, ty199, h0, h3, h4, n1, c1]
      refine (to_Target _ (by omega) l[i] cs Fi q1 (by omega)).mono ?_
      rintro r A2 ⟨cs', F', rfl, q2, f2, hE2⟩
      have v2 := hE2.size
      have hp2 := hp.ext hE2
      have hl2 : cs'.length = 2 := Dat.len q2
      obtain ⟨hlt2, ⟨c, g1, g2, g3⟩, hle⟩ := id hp2
      have hwl : (i + 1) * 2 ≤ l.length * 2 := Nat.mul_le_mul_right _ hil
      rw [hw] at g1 g2
      simp (maxSteps := 2000000) (disch := first | omega | (simp only [AH.size_new, AH.size_put] <;> omega) | fail) only [amR Tryd.prog ro X, amS, seval, reduceCtorEq, ty3, ty9, ty24, ty29, ty34, ty40, ty118, ty199, h0, h3, h4, g1, hl2]
      refine ⟨l.length - (i + 1), by omega, (hE.trans hE2).put (Nat.le_refl _) _, by omega, i + 1, by omega, rfl, by simp, G ++ F', ?_, (hf.mono (Nat.le_refl _) (Nat.le_refl _)).append (f2.mono (Nat.le_refl _) (Nat.le_refl _)) (by simp [AH.size_new]; omega) v2⟩
      have := hp2.store (fun hm => by have := hf.lo _ hm; simp [AH.size_new] at this; omega) q2 (fun hm => by have := f2.lo _ hm; omega) (by simp; omega) g1
      rw [List.take_succ_eq_append_getElem hil]
      rw [List.length_take, Nat.min_eq_left hi, hw] at this
      exact this
    · have hil : i = l.length := by simp at h; omega
      subst hil
      simp (maxSteps := 2000000) (disch := first | omega | (simp only [AH.size_new, AH.size_put] <;> omega) | fail) only [amR Tryd.prog ro X, amS, seval, reduceCtorEq, ty3, ty9, ty24, ty29, ty34, ty40, ty118, ty199, h3]
      rw [List.take_length] at hp
      exact ⟨_, _, rfl, hp.done rfl (by unfold BIG; omega), Fresh.cons (Nat.le_refl _) (by simp [AH.size_new]) hf (by simp only [AH.size_new]; omega) (by simp only [AH.size_new]; omega), hE⟩
theorem eq_Target (A : AH) (hro : ro ≤ A.size) (x y : TTarget) (cs ds : List Value) (F F' : List Nat) (h : Dat.rep A x cs F) (h' : Dat.rep A y ds F') (hz : Mk.sz x < 4294967296) :
    ACalls Tryd.prog ro X 151 [.agg cs.toArray, .agg ds.toArray] A (fun r A' => r = .ret (.bool (decide (x = y))) ∧ Ext A A') := by
  obtain ⟨s1, G1, rfl, rfl, z1, h1⟩ := rep_Target.1 h
  obtain ⟨s1', G1', rfl, rfl, z1', h1'⟩ := rep_Target.1 h'
  have hsz : Mk.sz x = x.1.size + ((szL Mk.sz x.2)) := rfl
  refine ACalls.enterQ (rs := [.tmp 4]) Tryd.func151 rfl (by kernel_rfl) rfl ?_
  simp (maxSteps := 2000000) (disch := first | omega | (simp only [AH.size_new, AH.size_put] <;> omega) | fail) only [amR Tryd.prog ro X, amS, seval, reduceCtorEq, ty4, ty9, ty27, ty29, ty118]
  refine CondB.split (fun h => ?_) (fun h => ?_)
  · have hc : ¬ x.1 = y.1 := by simpa using h
    simp (maxSteps := 2000000) (disch := first | omega | (simp only [AH.size_new, AH.size_put] <;> omega) | fail) only [amR Tryd.prog ro X, amS, seval, reduceCtorEq, ty4, ty9, ty27, ty29, ty118]
    exact ⟨by rw [decide_eq_false (fun e => hc (by rw [e]))], by ((repeat' (first | exact Ext.refl _ | assumption | refine Ext.trans ?_ (Ext.new _ _) | refine Ext.put ?_ ?_ _ | refine Ext.trans ?_ (by assumption))) <;> (first | omega | (simp only [AH.size_new, AH.size_put] <;> omega)))⟩
  have c1 : x.1 = y.1 := by simpa using h
  simp (maxSteps := 2000000) (disch := first | omega | (simp only [AH.size_new, AH.size_put] <;> omega) | fail) only [amR Tryd.prog ro X, amS, seval, reduceCtorEq, ty4, ty9, ty27, ty29, ty118]
  refine (eq_Program _ (by first | omega | (simp only [AH.size_new, AH.size_put] <;> omega)) x.2 y.2 _ _ _ _ (rep_Program.2 ⟨s1, _, rfl, rfl, h1.ext (by ((repeat' (first | exact Ext.refl _ | assumption | refine Ext.trans ?_ (Ext.new _ _) | refine Ext.put ?_ ?_ _ | refine Ext.trans ?_ (by assumption))) <;> (first | omega | (simp only [AH.size_new, AH.size_put] <;> omega))))⟩) (rep_Program.2 ⟨s1', _, rfl, rfl, h1'.ext (by ((repeat' (first | exact Ext.refl _ | assumption | refine Ext.trans ?_ (Ext.new _ _) | refine Ext.put ?_ ?_ _ | refine Ext.trans ?_ (by assumption))) <;> (first | omega | (simp only [AH.size_new, AH.size_put] <;> omega))))⟩) (by show szL Mk.sz x.2 < _; omega)).mono ?_
  rintro r B2 ⟨rfl, hE2⟩
  have v2 := hE2.size
  try simp only [AH.size_new, AH.size_put] at v2
  simp (maxSteps := 2000000) (disch := first | omega | (simp only [AH.size_new, AH.size_put] <;> omega) | fail) only [amR Tryd.prog ro X, amS, seval, reduceCtorEq, ty4, ty9, ty27, ty29, ty118, hE2.get]
  refine CondB.split (fun h => ?_) (fun h => ?_)
  · have hc : ¬ x.2 = y.2 := by simpa using h
    simp (maxSteps := 2000000) (disch := first | omega | (simp only [AH.size_new, AH.size_put] <;> omega) | fail) only [amR Tryd.prog ro X, amS, seval, reduceCtorEq, ty4, ty9, ty27, ty29, ty118, hE2.get]
    exact ⟨by rw [decide_eq_false (fun e => hc (by rw [e]))], by ((repeat' (first | exact Ext.refl _ | assumption | refine Ext.trans ?_ (Ext.new _ _) | refine Ext.put ?_ ?_ _ | refine Ext.trans ?_ (by assumption))) <;> (first | omega | (simp only [AH.size_new, AH.size_put] <;> omega)))⟩
  have c2 : x.2 = y.2 := by simpa using h
  simp (maxSteps := 2000000) (disch := first | omega | (simp only [AH.size_new, AH.size_put] <;> omega) | fail) only [amR Tryd.prog ro X, amS, seval, reduceCtorEq, ty4, ty9, ty27, ty29, ty118, hE2.get]
  exact ⟨by rw [decide_eq_true (Prod.ext c1 (c2))], by ((repeat' (first | exact Ext.refl _ | assumption | refine Ext.trans ?_ (Ext.new _ _) | refine Ext.put ?_ ?_ _ | refine Ext.trans ?_ (by assumption))) <;> (first | omega | (simp only [AH.size_new, AH.size_put] <;> omega)))⟩
theorem eqL_Target (A : AH) (hro : ro ≤ A.size) (s t : Sl) (l k : List TTarget) (F G : List Nat) (hs : SlR A s l F) (ht : SlR A t k G) (hz : szL Mk.sz l < 4294967296) :
    ACalls Tryd.prog ro X 80 [s.v, t.v] A (fun r A' => r = .ret (.bool (decide (l = k))) ∧ Ext A A') := by
  have hl := szL_length Mk.sz l
  have hw : Dat.w TTarget = 2 := rfl
  refine ACalls.enterQ (rs := [.tmp 4]) Tryd.func80 rfl (by kernel_rfl) rfl ?_
  simp (maxSteps := 2000000) (disch := first | omega | (simp only [AH.size_new, AH.size_put] <;> omega) | fail) only [amR Tryd.prog ro X, amS, seval, reduceCtorEq, ty3, ty4, ty9, ty29, ty40, ty118, hs.len, ht.len]
  refine CondB.split (fun h => ?_) (fun h => ?_)
  · simp (maxSteps := 2000000) (disch := first | omega | (simp only [AH.size_new, AH.size_put] <;> omega) | fail) only [amR Tryd.prog ro X, amS, seval, reduceCtorEq, ty3, ty4, ty9, ty29, ty40, ty118]
    have : l ≠ k := fun e => by simp [e] at h
    simp [this, Ext.refl]
  · simp (maxSteps := 2000000) (disch := first | omega | (simp only [AH.size_new, AH.size_put] <;> omega) | fail) only [amR Tryd.prog ro X, amS, seval, reduceCtorEq, ty3, ty4, ty9, ty29, ty40, ty118]
    have hlk : l.length = k.length := by simp at h; omega
    refine Wp.loopC (fun n e A' => Ext A A' ∧ e 0 = s.v ∧ e 1 = t.v ∧ ∃ i : Nat, i ≤ l.length ∧ n = l.length - i ∧ e 5 = .int .i64 i ∧ l.take i = k.take i) (l.length - 0) ?_ ?_
    · simp (maxSteps := 2000000) (disch := first | omega | (simp only [AH.size_new, AH.size_put] <;> omega) | fail) only [amV, amH, amQ, amL, amN Tryd.prog, amS, seval, reduceCtorEq, ty3, ty4, ty9, ty29, ty40, ty118]
      exact ⟨Ext.refl A, 0, by simp, rfl, rfl, by simp⟩
    · rintro n e A' ⟨hE, h0, h1, i, hi, rfl, h5, heq⟩
      have v1 := hE.size
      simp (maxSteps := 2000000) (disch := first | omega | (simp only [AH.size_new, AH.size_put] <;> omega) | fail) only [amR Tryd.prog ro X, amS, seval, reduceCtorEq, ty3, ty4, ty9, ty29, ty40, ty118, h0, h1, h5, hs.len]
      refine CondB.split (fun h => ?_) (fun h => ?_)
      · simp (maxSteps := 2000000) (disch := first | omega | (simp only [AH.size_new, AH.size_put] <;> omega) | fail) only [amR Tryd.prog ro X, amS, seval, reduceCtorEq, ty3, ty4, ty9, ty29, ty40, ty118]
        have hil : i < l.length := by simp at h; omega
        obtain ⟨n1, b1, m1, i1, cs, Fi, c1, q1, _⟩ := (hs.ext hE).row hil
        obtain ⟨n2, b2, m2, i2, ds, Gi, c2, q2, _⟩ := (ht.ext hE).row (i := i) (by omega)
        rw [aRow_eq, hw] at c1 c2
        have hzi := szL_get Mk.sz l i hil
        refine Wp.runG [] (by kernel_rfl) (.inl (by kernel_rfl)) ?_
        simp (maxSteps := 2000000) (disch := first | omega | (simp only [AH.size_new, AH.size_put] <;> omega) | fail) only [amR Tryd.prog ro X, amS, seval, reduceCtorEq, ty3, ty4, ty9, ty29, ty40, ty118, h0, h1, h5, n1, n2, c1, c2]
        refine (eq_Target _ (by omega) l[i] k[i] cs ds Fi Gi q1 q2 (by omega)).mono ?_
        rintro r A2 ⟨rfl, hE2⟩
        simp (maxSteps := 2000000) (disch := first | omega | (simp only [AH.size_new, AH.size_put] <;> omega) | fail) only [amR Tryd.prog ro X, amS, seval, reduceCtorEq, ty3, ty4, ty9, ty29, ty40, ty118]
        refine CondB.split (fun h => ?_) (fun h => ?_)
        · simp (maxSteps := 2000000) (disch := first | omega | (simp only [AH.size_new, AH.size_put] <;> omega) | fail) only [amR Tryd.prog ro X, amS, seval, reduceCtorEq, ty3, ty4, ty9, ty29, ty40, ty118]
          have : l ≠ k := by
            intro e
            subst e
            simp at h
          simp [this, hE.trans hE2]
        · simp (maxSteps := 2000000) (disch := first | omega | (simp only [AH.size_new, AH.size_put] <;> omega) | fail) only [amR Tryd.prog ro X, amS, seval, reduceCtorEq, ty3, ty4, ty9, ty29, ty40, ty118, h0, h1, h5]
          refine ⟨l.length - (i + 1), by omega, hE.trans hE2, i + 1, by omega, rfl, by simp, ?_⟩
          rw [List.take_succ_eq_append_getElem hil, List.take_succ_eq_append_getElem (by omega : i < k.length), heq]
          have : l[i] = k[i] := by simpa using h
          rw [this]
      · simp (maxSteps := 2000000) (disch := first | omega | (simp only [AH.size_new, AH.size_put] <;> omega) | fail) only [amR Tryd.prog ro X, amS, seval, reduceCtorEq, ty3, ty4, ty9, ty29, ty40, ty118]
        have : l = k := by
          have hi2 : i = l.length := by simp at h; omega
          subst hi2
          rw [List.take_length] at heq
          rw [hlk, List.take_length] at heq
          exact heq
        simp [this, hE]
theorem sz_Target (A : AH) (hro : ro ≤ A.size) (x : TTarget) (cs : List Value) (F : List Nat) (h : Dat.rep A x cs F) (hn : Mk.bd x) (left : Int) (hz : 0 ≤ left ∧ left ≤ 2097152) :
    ACalls Tryd.prog ro X 147 [.agg cs.toArray, .int .i64 left] A (fun r A' => r = .ret (.int .i64 (szR left (Mk.sz x))) ∧ Ext A A') := by
  obtain ⟨s1, G1, rfl, rfl, z1, h1⟩ := rep_Target.1 h
  have y1 := big_lt z1
  have hsz : Mk.sz x = x.1.size + ((szL Mk.sz x.2)) := rfl
  refine ACalls.enterQ (rs := [.tmp 4]) Tryd.func147 rfl (by kernel_rfl) rfl ?_
  simp (maxSteps := 2000000) (disch := first | omega | (simp only [AH.size_new, AH.size_put] <;> omega) | fail) only [amR Tryd.prog ro X, amS, seval, reduceCtorEq, ty3, ty9, ty22, ty24, ty199]
  refine CondB.split (fun h => ?_) (fun h => ?_)
  · have hc : left - (x.1.size : Nat) < 0 := by simpa using h
    simp (maxSteps := 2000000) (disch := first | omega | (simp only [AH.size_new, AH.size_put] <;> omega) | fail) only [amR Tryd.prog ro X, amS, seval, reduceCtorEq, ty3, ty9, ty22, ty24, ty199]
    exact ⟨(by rw [szR_neg (by omega : left - (Mk.sz x : Nat) < 0)]), by ((repeat' (first | exact Ext.refl _ | assumption | refine Ext.trans ?_ (Ext.new _ _) | refine Ext.put ?_ ?_ _ | refine Ext.trans ?_ (by assumption))) <;> (first | omega | (simp only [AH.size_new, AH.size_put] <;> omega)))⟩
  have c1 : ¬ (left - (x.1.size : Nat) < 0) := by simpa using h
  simp (maxSteps := 2000000) (disch := first | omega | (simp only [AH.size_new, AH.size_put] <;> omega) | fail) only [amR Tryd.prog ro X, amS, seval, reduceCtorEq, ty3, ty9, ty22, ty24, ty199]
  refine (sz_Program _ (by first | omega | (simp only [AH.size_new, AH.size_put] <;> omega)) x.2 _ _ (rep_Program.2 ⟨s1, _, rfl, rfl, h1.ext (by ((repeat' (first | exact Ext.refl _ | assumption | refine Ext.trans ?_ (Ext.new _ _) | refine Ext.put ?_ ?_ _ | refine Ext.trans ?_ (by assumption))) <;> (first | omega | (simp only [AH.size_new, AH.size_put] <;> omega))))⟩) hn.2 (left - (x.1.size : Nat)) (by omega)).mono ?_
  rintro r B2 ⟨rfl, hE2⟩
  have v2 := hE2.size
  try simp only [AH.size_new, AH.size_put] at v2
  have e2 : (Mk.sz x.2 : Nat) = szL Mk.sz x.2 := rfl
  rw [e2]
  by_cases c2 : left - (x.1.size : Nat) - (szL Mk.sz x.2 : Nat) < 0
  · rw [szR_neg c2]
    simp (maxSteps := 2000000) (disch := first | omega | (simp only [AH.size_new, AH.size_put] <;> omega) | fail) only [amR Tryd.prog ro X, amS, seval, reduceCtorEq, ty3, ty9, ty22, ty24, ty199, hE2.get]
    exact ⟨(by rw [szR_neg (by omega : left - (Mk.sz x : Nat) < 0)]), by ((repeat' (first | exact Ext.refl _ | assumption | refine Ext.trans ?_ (Ext.new _ _) | refine Ext.put ?_ ?_ _ | refine Ext.trans ?_ (by assumption))) <;> (first | omega | (simp only [AH.size_new, AH.size_put] <;> omega)))⟩
  rw [szR_pos c2]
  simp (maxSteps := 2000000) (disch := first | omega | (simp only [AH.size_new, AH.size_put] <;> omega) | fail) only [amR Tryd.prog ro X, amS, seval, reduceCtorEq, ty3, ty9, ty22, ty24, ty199, hE2.get, c2]
  exact ⟨by rw [szR_pos (by omega : ¬ left - (Mk.sz x : Nat) < 0)]; congr 2 <;> omega, by ((repeat' (first | exact Ext.refl _ | assumption | refine Ext.trans ?_ (Ext.new _ _) | refine Ext.put ?_ ?_ _ | refine Ext.trans ?_ (by assumption))) <;> (first | omega | (simp only [AH.size_new, AH.size_put] <;> omega)))⟩
theorem szL_Target (A : AH) (hro : ro ≤ A.size) (s : Sl) (l : List TTarget) (F : List Nat) (hs : SlR A s l F) (hn : Mk.bd l) (left : Int) (hz : 0 ≤ left ∧ left ≤ 2097152) :
    ACalls Tryd.prog ro X 73 [s.v, .int .i64 left] A (fun r A' => r = .ret (.int .i64 (szR left (szL Mk.sz l))) ∧ Ext A A') := by
  have hl := hn.1
  have hw : Dat.w TTarget = 2 := rfl
  refine ACalls.enterQ (rs := [.tmp 4]) Tryd.func73 rfl (by kernel_rfl) rfl ?_
  simp (maxSteps := 2000000) (disch := first | omega | (simp only [AH.size_new, AH.size_put] <;> omega) | fail) only [amR Tryd.prog ro X, amS, seval, reduceCtorEq, ty3, ty9, ty24, ty34, ty199, hs.len]
  refine CondB.split (fun h => ?_) (fun h => ?_)
  · simp (maxSteps := 2000000) (disch := first | omega | (simp only [AH.size_new, AH.size_put] <;> omega) | fail) only [amR Tryd.prog ro X, amS, seval, reduceCtorEq, ty3, ty9, ty24, ty34, ty199]
    have h2 : left - l.length < 0 := by simpa using h
    have := szL_length Mk.sz l
    exact ⟨by rw [szR_neg (by omega)], Ext.refl A⟩
  · simp (maxSteps := 2000000) (disch := first | omega | (simp only [AH.size_new, AH.size_put] <;> omega) | fail) only [amR Tryd.prog ro X, amS, seval, reduceCtorEq, ty3, ty9, ty24, ty34, ty199]
    refine Wp.loopC (fun n e A' => Ext A A' ∧ e 0 = s.v ∧ ∃ i : Nat, i ≤ l.length ∧ n = l.length - i ∧ e 5 = .int .i64 i ∧ e 1 = .int .i64 (left - szL Mk.sz (l.take i) + i - l.length) ∧ 0 ≤ left - szL Mk.sz (l.take i) + i - l.length) (l.length - 0) ?_ ?_
    · simp (maxSteps := 2000000) (disch := first | omega | (simp only [AH.size_new, AH.size_put] <;> omega) | fail) only [amV, amH, amQ, amL, amN Tryd.prog, amS, seval, reduceCtorEq, ty3, ty9, ty24, ty34, ty199]
      refine ⟨Ext.refl A, 0, by omega, rfl, rfl, ?_⟩
      have : 0 ≤ left - l.length := by simpa using h
      simp only [List.take_zero, szL_nil]
      exact ⟨by congr 1 <;> omega, by omega⟩
    · rintro n e A' ⟨hE, h0, i, hi, rfl, h5, h1, hle⟩
      have v1 := hE.size
      simp (maxSteps := 2000000) (disch := first | omega | (simp only [AH.size_new, AH.size_put] <;> omega) | fail) only [amR Tryd.prog ro X, amS, seval, reduceCtorEq, ty3, ty9, ty24, ty34, ty199, h0, h5, hs.len]
      refine CondB.split (fun h => ?_) (fun h => ?_)
      · have hil : i < l.length := by simp at h; omega
        obtain ⟨n1, b1, m1, i1, cs, Fi, c1, q1, _⟩ := (hs.ext hE).row hil
        rw [aRow_eq, hw] at c1
        have hst := szL_take_succ Mk.sz l i hil
        have hge := szL_take_le Mk.sz l (i + 1)
        have hge0 := szL_take_le Mk.sz l i
        have hti := szL_length Mk.sz (l.take i)
        rw [List.length_take, Nat.min_eq_left hi] at hti
        simp (maxSteps := 2000000) (disch := first | omega | (simp only [AH.size_new, AH.size_put] <;> omega) | fail) only [amR Tryd.prog ro X, amS, seval, reduceCtorEq, ty3, ty9, ty24, ty34, ty199, h0, h1, h5, n1, c1]
        refine (sz_Target _ (by omega) l[i] cs Fi q1 (hn.2 _ (List.getElem_mem hil)) _ ⟨hle, by omega⟩).mono ?_
        rintro r A2 ⟨rfl, hE2⟩
        by_cases hc : left - szL Mk.sz (l.take i) + i - l.length - (Mk.sz l[i] : Nat) < 0
        · rw [szR_neg hc]
          simp (maxSteps := 2000000) (disch := first | omega | (simp only [AH.size_new, AH.size_put] <;> omega) | fail) only [amR Tryd.prog ro X, amS, seval, reduceCtorEq, ty3, ty9, ty24, ty34, ty199]
          exact ⟨by rw [szR_neg (by omega)], hE.trans hE2⟩
        · rw [szR_pos hc]
          simp (maxSteps := 2000000) (disch := first | omega | (simp only [AH.size_new, AH.size_put] <;> omega) | fail) only [amR Tryd.prog ro X, amS, seval, reduceCtorEq, ty3, ty9, ty24, ty34, ty199, h0, h5, hc]
          exact ⟨l.length - (i + 1), by omega, hE.trans hE2, i + 1, by omega, rfl, rfl, by congr 1 <;> omega, by omega⟩
      · have hil : i = l.length := by simp at h; omega
        subst hil
        rw [List.take_length] at h1 hle
        simp (maxSteps := 2000000) (disch := first | omega | (simp only [AH.size_new, AH.size_put] <;> omega) | fail) only [amR Tryd.prog ro X, amS, seval, reduceCtorEq, ty3, ty9, ty24, ty34, ty199, h1]
        exact ⟨by rw [szR_pos (by omega)]; congr 2; omega, hE⟩
theorem to_Space (A : AH) (hro : ro ≤ A.size) (x : TSpace) (cs : List Value) (F : List Nat) (h : Dat.rep A x cs F) (hz : Mk.sz x < 4294967296) :
    ACalls Tryd.prog ro X 21 [.agg cs.toArray] A (fun r A' => ∃ cs' F', r = .ret (.agg cs'.toArray) ∧ Dat.rep A' x cs' F' ∧ Fresh A F' A' ∧ Ext A A') := by
  obtain ⟨s1, s2, G1, G2, rfl, rfl, h1, h2⟩ := rep_Space.1 h
  have hsz : Mk.sz x = szL Mk.sz x.1 + (szL Mk.sz x.2) := rfl
  refine ACalls.enterQ (rs := [.cell 2 42]) Tryd.func21 rfl (by kernel_rfl) rfl ?_
  simp (maxSteps := 2000000) (disch := first | omega | (simp only [AH.size_new, AH.size_put] <;> omega) | fail) only [amR Tryd.prog ro X, amS, seval, reduceCtorEq, ty33, ty34, ty36, ty39, ty40, ty42, ty116, ty118, ty196, ty199]
  refine (toL_Source _ (by first | omega | (simp only [AH.size_new, AH.size_put] <;> omega)) s1 _ _ (h1.ext (by ((repeat' (first | exact Ext.refl _ | assumption | refine Ext.trans ?_ (Ext.new _ _) | refine Ext.put ?_ ?_ _ | refine Ext.trans ?_ (by assumption))) <;> (first | omega | (simp only [AH.size_new, AH.size_put] <;> omega))))) (by omega)).mono ?_
  rintro r B1 ⟨t1, H1, rfl, q1, f1, hE1⟩
  have v1 := hE1.size
  try simp only [AH.size_new, AH.size_put] at v1
  simp (maxSteps := 2000000) (disch := first | omega | (simp only [AH.size_new, AH.size_put] <;> omega) | fail) only [amR Tryd.prog ro X, amS, seval, reduceCtorEq, ty33, ty34, ty36, ty39, ty40, ty42, ty116, ty118, ty196, ty199, hE1.get]
  refine (toL_Target _ (by first | omega | (simp only [AH.size_new, AH.size_put] <;> omega)) s2 _ _ (h2.ext (by ((repeat' (first | exact Ext.refl _ | assumption | refine Ext.trans ?_ (Ext.new _ _) | refine Ext.put ?_ ?_ _ | refine Ext.trans ?_ (by assumption))) <;> (first | omega | (simp only [AH.size_new, AH.size_put] <;> omega))))) (by omega)).mono ?_
  rintro r B2 ⟨t2, H2, rfl, q2, f2, hE2⟩
  have v2 := hE2.size
  try simp only [AH.size_new, AH.size_put] at v2
  simp (maxSteps := 2000000) (disch := first | omega | (simp only [AH.size_new, AH.size_put] <;> omega) | fail) only [amR Tryd.prog ro X, amS, seval, reduceCtorEq, ty33, ty34, ty36, ty39, ty40, ty42, ty116, ty118, ty196, ty199, hE1.get, hE2.get]
  exact ⟨_, _, rfl, rep_Space.2 ⟨t1, t2, _, _, rfl, rfl, q1.low f1.lo (by ((repeat' (first | exact Low.refl _ _ | assumption | refine Low.new ?_ _ | refine Low.put ?_ ?_ _ | refine Low.trans ?_ (Ext.low (by assumption) _))) <;> (first | omega | (simp only [AH.size_new, AH.size_put] <;> omega)))), q2.low f2.lo (by ((repeat' (first | exact Low.refl _ _ | assumption | refine Low.new ?_ _ | refine Low.put ?_ ?_ _ | refine Low.trans ?_ (Ext.low (by assumption) _))) <;> (first | omega | (simp only [AH.size_new, AH.size_put] <;> omega))))⟩, (f1.mono (by first | omega | (simp only [AH.size_new, AH.size_put] <;> omega)) (Nat.le_refl _)).append (f2.mono (by first | omega | (simp only [AH.size_new, AH.size_put] <;> omega)) (by first | omega | (simp only [AH.size_new, AH.size_put] <;> omega))) (by first | omega | (simp only [AH.size_new, AH.size_put] <;> omega)) (by first | omega | (simp only [AH.size_new, AH.size_put] <;> omega)), by ((repeat' (first | exact Ext.refl _ | assumption | refine Ext.trans ?_ (Ext.new _ _) | refine Ext.put ?_ ?_ _ | refine Ext.trans ?_ (by assumption))) <;> (first | omega | (simp only [AH.size_new, AH.size_put] <;> omega)))⟩
theorem eq_Space (A : AH) (hro : ro ≤ A.size) (x y : TSpace) (cs ds : List Value) (F F' : List Nat) (h : Dat.rep A x cs F) (h' : Dat.rep A y ds F') (hz : Mk.sz x < 4294967296) :
    ACalls Tryd.prog ro X 23 [.agg cs.toArray, .agg ds.toArray] A (fun r A' => r = .ret (.bool (decide (x = y))) ∧ Ext A A') := by
  obtain ⟨s1, s2, G1, G2, rfl, rfl, h1, h2⟩ := rep_Space.1 h
  obtain ⟨s1', s2', G1', G2', rfl, rfl, h1', h2'⟩ := rep_Space.1 h'
  have hsz : Mk.sz x = szL Mk.sz x.1 + (szL Mk.sz x.2) := rfl
  refine ACalls.enterQ (rs := [.tmp 4]) Tryd.func23 rfl (by kernel_rfl) rfl ?_
  simp (maxSteps := 2000000) (disch := first | omega | (simp only [AH.size_new, AH.size_put] <;> omega) | fail) only [amR Tryd.prog ro X, amS, seval, reduceCtorEq, ty4, ty39, ty40, ty42, ty116, ty118]
  refine (eqL_Source _ (by first | omega | (simp only [AH.size_new, AH.size_put] <;> omega)) s1 s1' _ _ _ _ (h1.ext (by ((repeat' (first | exact Ext.refl _ | assumption | refine Ext.trans ?_ (Ext.new _ _) | refine Ext.put ?_ ?_ _ | refine Ext.trans ?_ (by assumption))) <;> (first | omega | (simp only [AH.size_new, AH.size_put] <;> omega))))) (h1'.ext (by ((repeat' (first | exact Ext.refl _ | assumption | refine Ext.trans ?_ (Ext.new _ _) | refine Ext.put ?_ ?_ _ | refine Ext.trans ?_ (by assumption))) <;> (first | omega | (simp only [AH.size_new, AH.size_put] <;> omega))))) (by omega)).mono ?_
  rintro r B1 ⟨rfl, hE1⟩
  have v1 := hE1.size
  try simp only [AH.size_new, AH.size_put] at v1
  simp (maxSteps := 2000000) (disch := first | omega | (simp only [AH.size_new, AH.size_put] <;> omega) | fail) only [amR Tryd.prog ro X, amS, seval, reduceCtorEq, ty4, ty39, ty40, ty42, ty116, ty118, hE1.get]
  refine CondB.split (fun h => ?_) (fun h => ?_)
  · have hc : ¬ x.1 = y.1 := by simpa using h
    simp (maxSteps := 2000000) (disch := first | omega | (simp only [AH.size_new, AH.size_put] <;> omega) | fail) only [amR Tryd.prog ro X, amS, seval, reduceCtorEq, ty4, ty39, ty40, ty42, ty116, ty118, hE1.get]
    exact ⟨by rw [decide_eq_false (fun e => hc (by rw [e]))], by ((repeat' (first | exact Ext.refl _ | assumption | refine Ext.trans ?_ (Ext.new _ _) | refine Ext.put ?_ ?_ _ | refine Ext.trans ?_ (by assumption))) <;> (first | omega | (simp only [AH.size_new, AH.size_put] <;> omega)))⟩
  have c1 : x.1 = y.1 := by simpa using h
  simp (maxSteps := 2000000) (disch := first | omega | (simp only [AH.size_new, AH.size_put] <;> omega) | fail) only [amR Tryd.prog ro X, amS, seval, reduceCtorEq, ty4, ty39, ty40, ty42, ty116, ty118, hE1.get]
  refine (eqL_Target _ (by first | omega | (simp only [AH.size_new, AH.size_put] <;> omega)) s2 s2' _ _ _ _ (h2.ext (by ((repeat' (first | exact Ext.refl _ | assumption | refine Ext.trans ?_ (Ext.new _ _) | refine Ext.put ?_ ?_ _ | refine Ext.trans ?_ (by assumption))) <;> (first | omega | (simp only [AH.size_new, AH.size_put] <;> omega))))) (h2'.ext (by ((repeat' (first | exact Ext.refl _ | assumption | refine Ext.trans ?_ (Ext.new _ _) | refine Ext.put ?_ ?_ _ | refine Ext.trans ?_ (by assumption))) <;> (first | omega | (simp only [AH.size_new, AH.size_put] <;> omega))))) (by omega)).mono ?_
  rintro r B2 ⟨rfl, hE2⟩
  have v2 := hE2.size
  try simp only [AH.size_new, AH.size_put] at v2
  simp (maxSteps := 2000000) (disch := first | omega | (simp only [AH.size_new, AH.size_put] <;> omega) | fail) only [amR Tryd.prog ro X, amS, seval, reduceCtorEq, ty4, ty39, ty40, ty42, ty116, ty118, hE1.get, hE2.get]
  refine CondB.split (fun h => ?_) (fun h => ?_)
  · have hc : ¬ x.2 = y.2 := by simpa using h
    simp (maxSteps := 2000000) (disch := first | omega | (simp only [AH.size_new, AH.size_put] <;> omega) | fail) only [amR Tryd.prog ro X, amS, seval, reduceCtorEq, ty4, ty39, ty40, ty42, ty116, ty118, hE1.get, hE2.get]
    exact ⟨by rw [decide_eq_false (fun e => hc (by rw [e]))], by ((repeat' (first | exact Ext.refl _ | assumption | refine Ext.trans ?_ (Ext.new _ _) | refine Ext.put ?_ ?_ _ | refine Ext.trans ?_ (by assumption))) <;> (first | omega | (simp only [AH.size_new, AH.size_put] <;> omega)))⟩
  have c2 : x.2 = y.2 := by simpa using h
  simp (maxSteps := 2000000) (disch := first | omega | (simp only [AH.size_new, AH.size_put] <;> omega) | fail) only [amR Tryd.prog ro X, amS, seval, reduceCtorEq, ty4, ty39, ty40, ty42, ty116, ty118, hE1.get, hE2.get]
  exact ⟨by rw [decide_eq_true (Prod.ext c1 (c2))], by ((repeat' (first | exact Ext.refl _ | assumption | refine Ext.trans ?_ (Ext.new _ _) | refine Ext.put ?_ ?_ _ | refine Ext.trans ?_ (by assumption))) <;> (first | omega | (simp only [AH.size_new, AH.size_put] <;> omega)))⟩
theorem sz_Space (A : AH) (hro : ro ≤ A.size) (x : TSpace) (cs : List Value) (F : List Nat) (h : Dat.rep A x cs F) (hn : Mk.bd x) (left : Int) (hz : 0 ≤ left ∧ left ≤ 2097152) :
    ACalls Tryd.prog ro X 19 [.agg cs.toArray, .int .i64 left] A (fun r A' => r = .ret (.int .i64 (szR left (Mk.sz x))) ∧ Ext A A') := by
  obtain ⟨s1, s2, G1, G2, rfl, rfl, h1, h2⟩ := rep_Space.1 h
  have hsz : Mk.sz x = szL Mk.sz x.1 + (szL Mk.sz x.2) := rfl
  refine ACalls.enterQ (rs := [.tmp 4]) Tryd.func19 rfl (by kernel_rfl) rfl ?_
  simp (maxSteps := 2000000) (disch := first | omega | (simp only [AH.size_new, AH.size_put] <;> omega) | fail) only [amR Tryd.prog ro X, amS, seval, reduceCtorEq, ty3, ty33, ty34, ty36, ty196, ty199]
  refine (szL_Source _ (by first | omega | (simp only [AH.size_new, AH.size_put] <;> omega)) s1 _ _ (h1.ext (by ((repeat' (first | exact Ext.refl _ | assumption | refine Ext.trans ?_ (Ext.new _ _) | refine Ext.put ?_ ?_ _ | refine Ext.trans ?_ (by assumption))) <;> (first | omega | (simp only [AH.size_new, AH.size_put] <;> omega))))) hn.1 (left) (by omega)).mono ?_
  rintro r B1 ⟨rfl, hE1⟩
  have v1 := hE1.size
  try simp only [AH.size_new, AH.size_put] at v1
  by_cases c1 : left - (szL Mk.sz x.1 : Nat) < 0
  · rw [szR_neg c1]
    simp (maxSteps := 2000000) (disch := first | omega | (simp only [AH.size_new, AH.size_put] <;> omega) | fail) only [amR Tryd.prog ro X, amS, seval, reduceCtorEq, ty3, ty33, ty34, ty36, ty196, ty199, hE1.get]
    exact ⟨(by rw [szR_neg (by omega : left - (Mk.sz x : Nat) < 0)]), by ((repeat' (first | exact Ext.refl _ | assumption | refine Ext.trans ?_ (Ext.new _ _) | refine Ext.put ?_ ?_ _ | refine Ext.trans ?_ (by assumption))) <;> (first | omega | (simp only [AH.size_new, AH.size_put] <;> omega)))⟩
  rw [szR_pos c1]
  simp (maxSteps := 2000000) (disch := first | omega | (simp only [AH.size_new, AH.size_put] <;> omega) | fail) only [amR Tryd.prog ro X, amS, seval, reduceCtorEq, ty3, ty33, ty34, ty36, ty196, ty199, hE1.get, c1]
  refine (szL_Target _ (by first | omega | (simp only [AH.size_new, AH.size_put] <;> omega)) s2 _ _ (h2.ext (by ((repeat' (first | exact Ext.refl _ | assumption | refine Ext.trans ?_ (Ext.new _ _) | refine Ext.put ?_ ?_ _ | refine Ext.trans ?_ (by assumption))) <;> (first | omega | (simp only [AH.size_new, AH.size_put] <;> omega))))) hn.2 (left - (szL Mk.sz x.1 : Nat)) (by omega)).mono ?_
  rintro r B2 ⟨rfl, hE2⟩
  have v2 := hE2.size
  try simp only [AH.size_new, AH.size_put] at v2
  by_cases c2 : left - (szL Mk.sz x.1 : Nat) - (szL Mk.sz x.2 : Nat) < 0
  · rw [szR_neg c2]
    simp (maxSteps := 2000000) (disch := first | omega | (simp only [AH.size_new, AH.size_put] <;> omega) | fail) only [amR Tryd.prog ro X, amS, seval, reduceCtorEq, ty3, ty33, ty34, ty36, ty196, ty199, hE1.get, hE2.get]
    exact ⟨(by rw [szR_neg (by omega : left - (Mk.sz x : Nat) < 0)]), by ((repeat' (first | exact Ext.refl _ | assumption | refine Ext.trans ?_ (Ext.new _ _) | refine Ext.put ?_ ?_ _ | refine Ext.trans ?_ (by assumption))) <;> (first | omega | (simp only [AH.size_new, AH.size_put] <;> omega)))⟩
  rw [szR_pos c2]
  simp (maxSteps := 2000000) (disch := first | omega | (simp only [AH.size_new, AH.size_put] <;> omega) | fail) only [amR Tryd.prog ro X, amS, seval, reduceCtorEq, ty3, ty33, ty34, ty36, ty196, ty199, hE1.get, hE2.get, c2]
  exact ⟨by rw [szR_pos (by omega : ¬ left - (Mk.sz x : Nat) < 0)]; congr 2 <;> omega, by ((repeat' (first | exact Ext.refl _ | assumption | refine Ext.trans ?_ (Ext.new _ _) | refine Ext.put ?_ ?_ _ | refine Ext.trans ?_ (by assumption))) <;> (first | omega | (simp only [AH.size_new, AH.size_put] <;> omega)))⟩
theorem to_Reply (A : AH) (hro : ro ≤ A.size) (x : TReply) (cs : List Value) (F : List Nat) (h : Dat.rep A x cs F) (hz : Mk.sz x < 4294967296) :
    ACalls Tryd.prog ro X 129 [.agg cs.toArray] A (fun r A' => ∃ cs' F', r = .ret (.agg cs'.toArray) ∧ Dat.rep A' x cs' F' ∧ Fresh A F' A' ∧ Ext A A') := by
  obtain ⟨rfl, rfl, z1⟩ := rep_Reply.1 h
  have y1 := big_lt z1
  have hsz : Mk.sz x = 0 + (0 + (x.2.2.size)) := rfl
  refine ACalls.enterQ (rs := [.cell 2 172]) Tryd.func129 rfl (by kernel_rfl) rfl ?_
  simp (maxSteps := 2000000) (disch := first | omega | (simp only [AH.size_new, AH.size_put] <;> omega) | fail) only [amR Tryd.prog ro X, amS, seval, reduceCtorEq, ty3, ty4, ty9, ty171, ty172]
  exact ⟨_, _, rfl, rep_Reply.2 ⟨rfl, rfl, z1⟩, Fresh.nil _ _, by ((repeat' (first | exact Ext.refl _ | assumption | refine Ext.trans ?_ (Ext.new _ _) | refine Ext.put ?_ ?_ _ | refine Ext.trans ?_ (by assumption))) <;> (first | omega | (simp only [AH.size_new, AH.size_put] <;> omega)))⟩
theorem toL_Reply (A : AH) (hro : ro ≤ A.size) (s : Sl) (l : List TReply) (F : List Nat) (hs : SlR A s l F) (hz : szL Mk.sz l < 4294967296) :
    ACalls Tryd.prog ro X 59 [s.v] A (fun r A' => ∃ t G, r = .ret t.v ∧ SlR A' t l G ∧ Fresh A G A' ∧ Ext A A') := by
  have hl := szL_length Mk.sz l
  refine ACalls.enterQ (rs := [.tmp 2]) Tryd.func59 rfl (by kernel_rfl) rfl ?_
  simp (maxSteps := 2000000) (disch := first | omega | (simp only [AH.size_new, AH.size_put] <;> omega) | fail) only [amR Tryd.prog ro X, amS, seval, reduceCtorEq, ty3, ty4, ty9, ty93, ty98, ty171, ty172, hs.len]
  refine Wp.loopC (fun n e A' => Ext A A' ∧ A.size < A'.size ∧ e 0 = s.v ∧ e 3 = (Sl.mk false A.size 0 l.length l.length).v ∧ ∃ i : Nat, i ≤ l.length ∧ n = l.length - i ∧ e 4 = .int .i64 i ∧ ∃ G, Part A' A.size l.length (l.take i) G ∧ Fresh (A.new .dead) G A') (l.length - 0) ?_ ?_
  · simp (maxSteps := 2000000) (disch := first | omega | (simp only [AH.size_new, AH.size_put] <;> omega) | fail) only [amV, amH, amQ, amL, amN Tryd.prog, amS, seval, reduceCtorEq, ty3, ty4, ty9, ty93, ty98, ty171, ty172]
    refine ⟨Ext.new A _, by omega, 0, by omega, rfl, rfl, [], ?_, Fresh.nil _ _⟩
    rw [List.take_zero]
    exact Part.start (by simp [AH.size_new]) (AH.get_new_self _ _) (fill_flat _ _ _ rfl)
  · rintro n e A' ⟨hE, hlt, h0, h3, i, hi, rfl, h4, G, hp, hf⟩
    have hs' := hs.ext hE
    simp (maxSteps := 2000000) (disch := first | omega | (simp only [AH.size_new, AH.size_put] <;> omega) | fail) only [amR Tryd.prog ro X, amS, seval, reduceCtorEq, ty3, ty4, ty9, ty93, ty98, ty171, ty172, h0, h3, h4, hs.len]
    refine CondB.split (fun h => ?_) (fun h => ?_)
    · have hil : i < l.length := by simp at h; omega
      obtain ⟨n1, b1, m1, i1, cs, Fi, c1, q1, _⟩ := hs'.row hil
      rw [aRow_eq] at c1
      have hw : Dat.w TReply = 3 := rfl
      rw [hw] at c1
      have hzi := szL_get Mk.sz l i hil
      simp (maxSteps := 2000000) (disch := first | omega | (simp only [AH.size_new, AH.size_put] <;> omega) | fail) only [amR Tryd.prog ro X, amS, seval, reduceCtorEq, ty3, ty4, ty9, ty93, ty98, ty171, ty172, h0, h3, h4, n1, c1]
      refine (to_Reply _ (by omega) l[i] cs Fi q1 (by omega)).mono ?_
      rintro r A2 ⟨cs', F', rfl, q2, f2, hE2⟩
      have v2 := hE2.size
      have hp2 := hp.ext hE2
      have hl2 : cs'.length = 3 := Dat.len q2
      obtain ⟨hlt2, ⟨c, g1, g2, g3⟩, hle⟩ := id hp2
      have hwl : (i + 1) * 3 ≤ l.length * 3 := Nat.mul_le_mul_right _ hil
      rw [hw] at g1 g2
      simp (maxSteps := 2000000) (disch := first | omega | (simp only [AH.size_new, AH.size_put] <;> omega) | fail) only [amR Tryd.prog ro X, amS, seval, reduceCtorEq, ty3, ty4, ty9, ty93, ty98, ty171, ty172, h0, h3, h4, g1, hl2]
      refine ⟨l.length - (i + 1), by omega, (hE.trans hE2).put (Nat.le_refl _) _, by omega, i + 1, by omega, rfl, by simp, G ++ F', ?_, (hf.mono (Nat.le_refl _) (Nat.le_refl _)).append (f2.mono (Nat.le_refl _) (Nat.le_refl _)) (by simp [AH.size_new]; omega) v2⟩
      have := hp2.store (fun hm => by have := hf.lo _ hm; simp [AH.size_new] at this; omega) q2 (fun hm => by have := f2.lo _ hm; omega) (by simp; omega) g1
      rw [List.take_succ_eq_append_getElem hil]
      rw [List.length_take, Nat.min_eq_left hi, hw] at this
      exact this
    · have hil : i = l.length := by simp at h; omega
      subst hil
      simp (maxSteps := 2000000) (disch := first | omega | (simp only [AH.size_new, AH.size_put] <;> omega) | fail) only [amR Tryd.prog ro X, amS, seval, reduceCtorEq, ty3, ty4, ty9, ty93, ty98, ty171, ty172, h3]
      rw [List.take_length] at hp
      exact ⟨_, _, rfl, hp.done rfl (by unfold BIG; omega), Fresh.cons (Nat.le_refl _) (by simp [AH.size_new]) hf (by simp only [AH.size_new]; omega) (by simp only [AH.size_new]; omega), hE⟩
theorem eq_Reply (A : AH) (hro : ro ≤ A.size) (x y : TReply) (cs ds : List Value) (F F' : List Nat) (h : Dat.rep A x cs F) (h' : Dat.rep A y ds F') (hz : Mk.sz x < 4294967296) :
    ACalls Tryd.prog ro X 132 [.agg cs.toArray, .agg ds.toArray] A (fun r A' => r = .ret (.bool (decide (x = y))) ∧ Ext A A') := by
  obtain ⟨rfl, rfl, z1⟩ := rep_Reply.1 h
  obtain ⟨rfl, rfl, z1'⟩ := rep_Reply.1 h'
  have hsz : Mk.sz x = 0 + (0 + (x.2.2.size)) := rfl
  refine ACalls.enterQ (rs := [.tmp 4]) Tryd.func132 rfl (by kernel_rfl) rfl ?_
  simp (maxSteps := 2000000) (disch := first | omega | (simp only [AH.size_new, AH.size_put] <;> omega) | fail) only [amR Tryd.prog ro X, amS, seval, reduceCtorEq, ty3, ty4, ty9, ty172]
  refine CondB.split (fun h => ?_) (fun h => ?_)
  · have hc : ¬ x.1 = y.1 := by simpa using h
    simp (maxSteps := 2000000) (disch := first | omega | (simp only [AH.size_new, AH.size_put] <;> omega) | fail) only [amR Tryd.prog ro X, amS, seval, reduceCtorEq, ty3, ty4, ty9, ty172]
    exact ⟨by rw [decide_eq_false (fun e => hc (by rw [e]))], by ((repeat' (first | exact Ext.refl _ | assumption | refine Ext.trans ?_ (Ext.new _ _) | refine Ext.put ?_ ?_ _ | refine Ext.trans ?_ (by assumption))) <;> (first | omega | (simp only [AH.size_new, AH.size_put] <;> omega)))⟩
  have c1 : x.1 = y.1 := by simpa using h
  simp (maxSteps := 2000000) (disch := first | omega | (simp only [AH.size_new, AH.size_put] <;> omega) | fail) only [amR Tryd.prog ro X, amS, seval, reduceCtorEq, ty3, ty4, ty9, ty172]
  refine CondB.split (fun h => ?_) (fun h => ?_)
  · have hc : ¬ x.2.1 = y.2.1 := by simpa using h
    simp (maxSteps := 2000000) (disch := first | omega | (simp only [AH.size_new, AH.size_put] <;> omega) | fail) only [amR Tryd.prog ro X, amS, seval, reduceCtorEq, ty3, ty4, ty9, ty172]
    exact ⟨by rw [decide_eq_false (fun e => hc (by rw [e]))], by ((repeat' (first | exact Ext.refl _ | assumption | refine Ext.trans ?_ (Ext.new _ _) | refine Ext.put ?_ ?_ _ | refine Ext.trans ?_ (by assumption))) <;> (first | omega | (simp only [AH.size_new, AH.size_put] <;> omega)))⟩
  have c2 : x.2.1 = y.2.1 := by simpa using h
  simp (maxSteps := 2000000) (disch := first | omega | (simp only [AH.size_new, AH.size_put] <;> omega) | fail) only [amR Tryd.prog ro X, amS, seval, reduceCtorEq, ty3, ty4, ty9, ty172]
  refine CondB.split (fun h => ?_) (fun h => ?_)
  · have hc : ¬ x.2.2 = y.2.2 := by simpa using h
    simp (maxSteps := 2000000) (disch := first | omega | (simp only [AH.size_new, AH.size_put] <;> omega) | fail) only [amR Tryd.prog ro X, amS, seval, reduceCtorEq, ty3, ty4, ty9, ty172]
    exact ⟨by rw [decide_eq_false (fun e => hc (by rw [e]))], by ((repeat' (first | exact Ext.refl _ | assumption | refine Ext.trans ?_ (Ext.new _ _) | refine Ext.put ?_ ?_ _ | refine Ext.trans ?_ (by assumption))) <;> (first | omega | (simp only [AH.size_new, AH.size_put] <;> omega)))⟩
  have c3 : x.2.2 = y.2.2 := by simpa using h
  simp (maxSteps := 2000000) (disch := first | omega | (simp only [AH.size_new, AH.size_put] <;> omega) | fail) only [amR Tryd.prog ro X, amS, seval, reduceCtorEq, ty3, ty4, ty9, ty172]
  exact ⟨by rw [decide_eq_true (Prod.ext c1 (Prod.ext c2 (c3)))], by ((repeat' (first | exact Ext.refl _ | assumption | refine Ext.trans ?_ (Ext.new _ _) | refine Ext.put ?_ ?_ _ | refine Ext.trans ?_ (by assumption))) <;> (first | omega | (simp only [AH.size_new, AH.size_put] <;> omega)))⟩
theorem eqL_Reply (A : AH) (hro : ro ≤ A.size) (s t : Sl) (l k : List TReply) (F G : List Nat) (hs : SlR A s l F) (ht : SlR A t k G) (hz : szL Mk.sz l < 4294967296) :
    ACalls Tryd.prog ro X 62 [s.v, t.v] A (fun r A' => r = .ret (.bool (decide (l = k))) ∧ Ext A A') := by
  have hl := szL_length Mk.sz l
  have hw : Dat.w TReply = 3 := rfl
  refine ACalls.enterQ (rs := [.tmp 4]) Tryd.func62 rfl (by kernel_rfl) rfl ?_
  simp (maxSteps := 2000000) (disch := first | omega | (simp only [AH.size_new, AH.size_put] <;> omega) | fail) only [amR Tryd.prog ro X, amS, seval, reduceCtorEq, ty3, ty4, ty9, ty98, ty172, hs.len, ht.len]
  refine CondB.split (fun h => ?_) (fun h => ?_)
  · simp (maxSteps := 2000000) (disch := first | omega | (simp only [AH.size_new, AH.size_put] <;> omega) | fail) only [amR Tryd.prog ro X, amS, seval, reduceCtorEq, ty3, ty4, ty9, ty98, ty172]
    have : l ≠ k := fun e => by simp [e] at h
    simp [this, Ext.refl]
  · simp (maxSteps := 2000000) (disch := first | omega | (simp only [AH.size_new, AH.size_put] <;> omega) | fail) only [amR Tryd.prog ro X, amS, seval, reduceCtorEq, ty3, ty4, ty9, ty98, ty172]
    have hlk : l.length = k.length := by simp at h; omega
    refine Wp.loopC (fun n e A' => Ext A A' ∧ e 0 = s.v ∧ e 1 = t.v ∧ ∃ i : Nat, i ≤ l.length ∧ n = l.length - i ∧ e 5 = .int .i64 i ∧ l.take i = k.take i) (l.length - 0) ?_ ?_
    · simp (maxSteps := 2000000) (disch := first | omega | (simp only [AH.size_new, AH.size_put] <;> omega) | fail) only [amV, amH, amQ, amL, amN Tryd.prog, amS, seval, reduceCtorEq, ty3, ty4, ty9, ty98, ty172]
      exact ⟨Ext.refl A, 0, by simp, rfl, rfl, by simp⟩
    · rintro n e A' ⟨hE, h0, h1, i, hi, rfl, h5, heq⟩
      have v1 := hE.size
      simp (maxSteps := 2000000) (disch := first | omega | (simp only [AH.size_new, AH.size_put] <;> omega) | fail) only [amR Tryd.prog ro X, amS, seval, reduceCtorEq, ty3, ty4, ty9, ty98, ty172, h0, h1, h5, hs.len]
      refine CondB.split (fun h => ?_) (fun h => ?_)
      · simp (maxSteps := 2000000) (disch := first | omega | (simp only [AH.size_new, AH.size_put] <;> omega) | fail) only [amR Tryd.prog ro X, amS, seval, reduceCtorEq, ty3, ty4, ty9, ty98, ty172]
        have hil : i < l.length := by simp at h; omega
        obtain ⟨n1, b1, m1, i1, cs, Fi, c1, q1, _⟩ := (hs.ext hE).row hil
        obtain ⟨n2, b2, m2, i2, ds, Gi, c2, q2, _⟩ := (ht.ext hE).row (i := i) (by omega)
        rw [aRow_eq, hw] at c1 c2
        have hzi := szL_get Mk.sz l i hil
        refine Wp.runG [] (by kernel_rfl) (.inl (by kernel_rfl)) ?_
        simp (maxSteps := 2000000) (disch := first | omega | (simp only [AH.size_new, AH.size_put] <;> omega) | fail) only [amR Tryd.prog ro X, amS, seval, reduceCtorEq, ty3, ty4, ty9, ty98, ty172, h0, h1, h5, n1, n2, c1, c2]
        refine (eq_Reply _ (by omega) l[i] k[i] cs ds Fi Gi q1 q2 (by omega)).mono ?_
        rintro r A2 ⟨rfl, hE2⟩
        simp (maxSteps := 2000000) (disch := first | omega | (simp only [AH.size_new, AH.size_put] <;> omega) | fail) only [amR Tryd.prog ro X, amS, seval, reduceCtorEq, ty3, ty4, ty9, ty98, ty172]
        refine CondB.split (fun h => ?_) (fun h => ?_)
        · simp (maxSteps := 2000000) (disch := first | omega | (simp only [AH.size_new, AH.size_put] <;> omega) | fail) only [amR Tryd.prog ro X, amS, seval, reduceCtorEq, ty3, ty4, ty9, ty98, ty172]
          have : l ≠ k := by
            intro e
            subst e
            simp at h
          simp [this, hE.trans hE2]
        · simp (maxSteps := 2000000) (disch := first | omega | (simp only [AH.size_new, AH.size_put] <;> omega) | fail) only [amR Tryd.prog ro X, amS, seval, reduceCtorEq, ty3, ty4, ty9, ty98, ty172, h0, h1, h5]
          refine ⟨l.length - (i + 1), by omega, hE.trans hE2, i + 1, by omega, rfl, by simp, ?_⟩
          rw [List.take_succ_eq_append_getElem hil, List.take_succ_eq_append_getElem (by omega : i < k.length), heq]
          have : l[i] = k[i] := by simpa using h
          rw [this]
      · simp (maxSteps := 2000000) (disch := first | omega | (simp only [AH.size_new, AH.size_put] <;> omega) | fail) only [amR Tryd.prog ro X, amS, seval, reduceCtorEq, ty3, ty4, ty9, ty98, ty172]
        have : l = k := by
          have hi2 : i = l.length := by simp at h; omega
          subst hi2
          rw [List.take_length] at heq
          rw [hlk, List.take_length] at heq
          exact heq
        simp [this, hE]
theorem sz_Reply (A : AH) (hro : ro ≤ A.size) (x : TReply) (cs : List Value) (F : List Nat) (h : Dat.rep A x cs F) (hn : Mk.bd x) (left : Int) (hz : 0 ≤ left ∧ left ≤ 2097152) :
    ACalls Tryd.prog ro X 127 [.agg cs.toArray, .int .i64 left] A (fun r A' => r = .ret (.int .i64 (szR left (Mk.sz x))) ∧ Ext A A') := by
  obtain ⟨rfl, rfl, z1⟩ := rep_Reply.1 h
  have y1 := big_lt z1
  have hsz : Mk.sz x = 0 + (0 + (x.2.2.size)) := rfl
  refine ACalls.enterQ (rs := [.tmp 4]) Tryd.func127 rfl (by kernel_rfl) rfl ?_
  simp (maxSteps := 2000000) (disch := first | omega | (simp only [AH.size_new, AH.size_put] <;> omega) | fail) only [amR Tryd.prog ro X, amS, seval, reduceCtorEq, ty3, ty4, ty9, ty171]
  refine CondB.split (fun h => ?_) (fun h => ?_)
  · have hc : left - (x.2.2.size : Nat) < 0 := by simpa using h
    simp (maxSteps := 2000000) (disch := first | omega | (simp only [AH.size_new, AH.size_put] <;> omega) | fail) only [amR Tryd.prog ro X, amS, seval, reduceCtorEq, ty3, ty4, ty9, ty171]
    exact ⟨(by rw [szR_neg (by omega : left - (Mk.sz x : Nat) < 0)]), by ((repeat' (first | exact Ext.refl _ | assumption | refine Ext.trans ?_ (Ext.new _ _) | refine Ext.put ?_ ?_ _ | refine Ext.trans ?_ (by assumption))) <;> (first | omega | (simp only [AH.size_new, AH.size_put] <;> omega)))⟩
  have c1 : ¬ (left - (x.2.2.size : Nat) < 0) := by simpa using h
  simp (maxSteps := 2000000) (disch := first | omega | (simp only [AH.size_new, AH.size_put] <;> omega) | fail) only [amR Tryd.prog ro X, amS, seval, reduceCtorEq, ty3, ty4, ty9, ty171]
  exact ⟨by rw [szR_pos (by omega : ¬ left - (Mk.sz x : Nat) < 0)]; congr 2 <;> omega, by ((repeat' (first | exact Ext.refl _ | assumption | refine Ext.trans ?_ (Ext.new _ _) | refine Ext.put ?_ ?_ _ | refine Ext.trans ?_ (by assumption))) <;> (first | omega | (simp only [AH.size_new, AH.size_put] <;> omega)))⟩
theorem szL_Reply (A : AH) (hro : ro ≤ A.size) (s : Sl) (l : List TReply) (F : List Nat) (hs : SlR A s l F) (hn : Mk.bd l) (left : Int) (hz : 0 ≤ left ∧ left ≤ 2097152) :
    ACalls Tryd.prog ro X 57 [s.v, .int .i64 left] A (fun r A' => r = .ret (.int .i64 (szR left (szL Mk.sz l))) ∧ Ext A A') := by
  have hl := hn.1
  have hw : Dat.w TReply = 3 := rfl
  refine ACalls.enterQ (rs := [.tmp 4]) Tryd.func57 rfl (by kernel_rfl) rfl ?_
  simp (maxSteps := 2000000) (disch := first | omega | (simp only [AH.size_new, AH.size_put] <;> omega) | fail) only [amR Tryd.prog ro X, amS, seval, reduceCtorEq, ty3, ty4, ty9, ty93, ty171, hs.len]
  refine CondB.split (fun h => ?_) (fun h => ?_)
  · simp (maxSteps := 2000000) (disch := first | omega | (simp only [AH.size_new, AH.size_put] <;> omega) | fail) only [amR Tryd.prog ro X, amS, seval, reduceCtorEq, ty3, ty4, ty9, ty93, ty171]
    have h2 : left - l.length < 0 := by simpa using h
    have := szL_length Mk.sz l
    exact ⟨by rw [szR_neg (by omega)], Ext.refl A⟩
  · simp (maxSteps := 2000000) (disch := first | omega | (simp only [AH.size_new, AH.size_put] <;> omega) | fail) only [amR Tryd.prog ro X, amS, seval, reduceCtorEq, ty3, ty4, ty9, ty93, ty171]
    refine Wp.loopC (fun n e A' => Ext A A' ∧ e 0 = s.v ∧ ∃ i : Nat, i ≤ l.length ∧ n = l.length - i ∧ e 5 = .int .i64 i ∧ e 1 = .int .i64 (left - szL Mk.sz (l.take i) + i - l.length) ∧ 0 ≤ left - szL Mk.sz (l.take i) + i - l.length) (l.length - 0) ?_ ?_
    · simp (maxSteps := 2000000) (disch := first | omega | (simp only [AH.size_new, AH.size_put] <;> omega) | fail) only [amV, amH, amQ, amL, amN Tryd.prog, amS, seval, reduceCtorEq, ty3, ty4, ty9, ty93, ty171]
      refine ⟨Ext.refl A, 0, by omega, rfl, rfl, ?_⟩
      have : 0 ≤ left - l.length := by simpa using h
      simp only [List.take_zero, szL_nil]
      exact ⟨by congr 1 <;> omega, by omega⟩
    · rintro n e A' ⟨hE, h0, i, hi, rfl, h5, h1, hle⟩
      have v1 := hE.size
      simp (maxSteps := 2000000) (disch := first | omega | (simp only [AH.size_new, AH.size_put] <;> omega) | fail) only [amR Tryd.prog ro X, amS, seval, reduceCtorEq, ty3, ty4, ty9, ty93, ty171, h0, h5, hs.len]
      refine CondB.split (fun h => ?_) (fun h => ?_)
      · have hil : i < l.length := by simp at h; omega
        obtain ⟨n1, b1, m1, i1, cs, Fi, c1, q1, _⟩ := (hs.ext hE).row hil
        rw [aRow_eq, hw] at c1
        have hst := szL_take_succ Mk.sz l i hil
        have hge := szL_take_le Mk.sz l (i + 1)
        have hge0 := szL_take_le Mk.sz l i
        have hti := szL_length Mk.sz (l.take i)
        rw [List.length_take, Nat.min_eq_left hi] at hti
        simp (maxSteps := 2000000) (disch := first | omega | (simp only [AH.size_new, AH.size_put] <;> omega) | fail) only [amR Tryd.prog ro X, amS, seval, reduceCtorEq, ty3, ty4, ty9, ty93, ty171, h0, h1, h5, n1, c1]
        refine (sz_Reply _ (by omega) l[i] cs Fi q1 (hn.2 _ (List.getElem_mem hil)) _ ⟨hle, by omega⟩).mono ?_
        rintro r A2 ⟨rfl, hE2⟩
        by_cases hc : left - szL Mk.sz (l.take i) + i - l.length - (Mk.sz l[i] : Nat) < 0
        · rw [szR_neg hc]
          simp (maxSteps := 2000000) (disch := first | omega | (simp only [AH.size_new, AH.size_put] <;> omega) | fail) only [amR Tryd.prog ro X, amS, seval, reduceCtorEq, ty3, ty4, ty9, ty93, ty171]
          exact ⟨by rw [szR_neg (by omega)], hE.trans hE2⟩
        · rw [szR_pos hc]
          simp (maxSteps := 2000000) (disch := first | omega | (simp only [AH.size_new, AH.size_put] <;> omega) | fail) only [amR Tryd.prog ro X, amS, seval, reduceCtorEq, ty3, ty4, ty9, ty93, ty171, h0, h5, hc]
          exact ⟨l.length - (i + 1), by omega, hE.trans hE2, i + 1, by omega, rfl, rfl, by congr 1 <;> omega, by omega⟩
      · have hil : i = l.length := by simp at h; omega
        subst hil
        rw [List.take_length] at h1 hle
        simp (maxSteps := 2000000) (disch := first | omega | (simp only [AH.size_new, AH.size_put] <;> omega) | fail) only [amR Tryd.prog ro X, amS, seval, reduceCtorEq, ty3, ty4, ty9, ty93, ty171, h1]
        exact ⟨by rw [szR_pos (by omega)]; congr 2; omega, hE⟩
theorem eq_Turn (A : AH) (hro : ro ≤ A.size) (x y : TTurn) (cs ds : List Value) (F F' : List Nat) (h : Dat.rep A x cs F) (h' : Dat.rep A y ds F') (hz : Mk.sz x < 4294967296) :
    ACalls Tryd.prog ro X 61 [.agg cs.toArray, .agg ds.toArray] A (fun r A' => r = .ret (.bool (decide (x = y))) ∧ Ext A A') := by
  obtain ⟨rfl, rfl, z1, z2⟩ := rep_Turn.1 h
  obtain ⟨rfl, rfl, z1', z2'⟩ := rep_Turn.1 h'
  have hsz : Mk.sz x = 0 + (0 + (x.2.2.1.size + (0 + (x.2.2.2.2.1.size + (0))))) := rfl
  refine ACalls.enterQ (rs := [.tmp 4]) Tryd.func61 rfl (by kernel_rfl) rfl ?_
  simp (maxSteps := 2000000) (disch := first | omega | (simp only [AH.size_new, AH.size_put] <;> omega) | fail) only [amR Tryd.prog ro X, amS, seval, reduceCtorEq, ty3, ty4, ty9, ty96]
  refine CondB.split (fun h => ?_) (fun h => ?_)
  · have hc : ¬ x.1 = y.1 := by simpa using h
    simp (maxSteps := 2000000) (disch := first | omega | (simp only [AH.size_new, AH.size_put] <;> omega) | fail) only [amR Tryd.prog ro X, amS, seval, reduceCtorEq, ty3, ty4, ty9, ty96]
    exact ⟨by rw [decide_eq_false (fun e => hc (by rw [e]))], by ((repeat' (first | exact Ext.refl _ | assumption | refine Ext.trans ?_ (Ext.new _ _) | refine Ext.put ?_ ?_ _ | refine Ext.trans ?_ (by assumption))) <;> (first | omega | (simp only [AH.size_new, AH.size_put] <;> omega)))⟩
  have c1 : x.1 = y.1 := by simpa using h
  simp (maxSteps := 2000000) (disch := first | omega | (simp only [AH.size_new, AH.size_put] <;> omega) | fail) only [amR Tryd.prog ro X, amS, seval, reduceCtorEq, ty3, ty4, ty9, ty96]
  refine CondB.split (fun h => ?_) (fun h => ?_)
  · have hc : ¬ x.2.1 = y.2.1 := by simpa using h
    simp (maxSteps := 2000000) (disch := first | omega | (simp only [AH.size_new, AH.size_put] <;> omega) | fail) only [amR Tryd.prog ro X, amS, seval, reduceCtorEq, ty3, ty4, ty9, ty96]
    exact ⟨by rw [decide_eq_false (fun e => hc (by rw [e]))], by ((repeat' (first | exact Ext.refl _ | assumption | refine Ext.trans ?_ (Ext.new _ _) | refine Ext.put ?_ ?_ _ | refine Ext.trans ?_ (by assumption))) <;> (first | omega | (simp only [AH.size_new, AH.size_put] <;> omega)))⟩
  have c2 : x.2.1 = y.2.1 := by simpa using h
  simp (maxSteps := 2000000) (disch := first | omega | (simp only [AH.size_new, AH.size_put] <;> omega) | fail) only [amR Tryd.prog ro X, amS, seval, reduceCtorEq, ty3, ty4, ty9, ty96]
  refine CondB.split (fun h => ?_) (fun h => ?_)
  · have hc : ¬ x.2.2.1 = y.2.2.1 := by simpa using h
    simp (maxSteps := 2000000) (disch := first | omega | (simp only [AH.size_new, AH.size_put] <;> omega) | fail) only [amR Tryd.prog ro X, amS, seval, reduceCtorEq, ty3, ty4, ty9, ty96]
    exact ⟨by rw [decide_eq_false (fun e => hc (by rw [e]))], by ((repeat' (first | exact Ext.refl _ | assumption | refine Ext.trans ?_ (Ext.new _ _) | refine Ext.put ?_ ?_ _ | refine Ext.trans ?_ (by assumption))) <;> (first | omega | (simp only [AH.size_new, AH.size_put] <;> omega)))⟩
  have c3 : x.2.2.1 = y.2.2.1 := by simpa using h
  simp (maxSteps := 2000000) (disch := first | omega | (simp only [AH.size_new, AH.size_put] <;> omega) | fail) only [amR Tryd.prog ro X, amS, seval, reduceCtorEq, ty3, ty4, ty9, ty96]
  refine CondB.split (fun h => ?_) (fun h => ?_)
  · have hc : ¬ x.2.2.2.1 = y.2.2.2.1 := by simpa using h
    simp (maxSteps := 2000000) (disch := first | omega | (simp only [AH.size_new, AH.size_put] <;> omega) | fail) only [amR Tryd.prog ro X, amS, seval, reduceCtorEq, ty3, ty4, ty9, ty96]
    exact ⟨by rw [decide_eq_false (fun e => hc (by rw [e]))], by ((repeat' (first | exact Ext.refl _ | assumption | refine Ext.trans ?_ (Ext.new _ _) | refine Ext.put ?_ ?_ _ | refine Ext.trans ?_ (by assumption))) <;> (first | omega | (simp only [AH.size_new, AH.size_put] <;> omega)))⟩
  have c4 : x.2.2.2.1 = y.2.2.2.1 := by simpa using h
  simp (maxSteps := 2000000) (disch := first | omega | (simp only [AH.size_new, AH.size_put] <;> omega) | fail) only [amR Tryd.prog ro X, amS, seval, reduceCtorEq, ty3, ty4, ty9, ty96]
  refine CondB.split (fun h => ?_) (fun h => ?_)
  · have hc : ¬ x.2.2.2.2.1 = y.2.2.2.2.1 := by simpa using h
    simp (maxSteps := 2000000) (disch := first | omega | (simp only [AH.size_new, AH.size_put] <;> omega) | fail) only [amR Tryd.prog ro X, amS, seval, reduceCtorEq, ty3, ty4, ty9, ty96]
    exact ⟨by rw [decide_eq_false (fun e => hc (by rw [e]))], by ((repeat' (first | exact Ext.refl _ | assumption | refine Ext.trans ?_ (Ext.new _ _) | refine Ext.put ?_ ?_ _ | refine Ext.trans ?_ (by assumption))) <;> (first | omega | (simp only [AH.size_new, AH.size_put] <;> omega)))⟩
  have c5 : x.2.2.2.2.1 = y.2.2.2.2.1 := by simpa using h
  simp (maxSteps := 2000000) (disch := first | omega | (simp only [AH.size_new, AH.size_put] <;> omega) | fail) only [amR Tryd.prog ro X, amS, seval, reduceCtorEq, ty3, ty4, ty9, ty96]
  refine CondB.split (fun h => ?_) (fun h => ?_)
  · have hc : ¬ x.2.2.2.2.2 = y.2.2.2.2.2 := by simpa using h
    simp (maxSteps := 2000000) (disch := first | omega | (simp only [AH.size_new, AH.size_put] <;> omega) | fail) only [amR Tryd.prog ro X, amS, seval, reduceCtorEq, ty3, ty4, ty9, ty96]
    exact ⟨by rw [decide_eq_false (fun e => hc (by rw [e]))], by ((repeat' (first | exact Ext.refl _ | assumption | refine Ext.trans ?_ (Ext.new _ _) | refine Ext.put ?_ ?_ _ | refine Ext.trans ?_ (by assumption))) <;> (first | omega | (simp only [AH.size_new, AH.size_put] <;> omega)))⟩
  have c6 : x.2.2.2.2.2 = y.2.2.2.2.2 := by simpa using h
  simp (maxSteps := 2000000) (disch := first | omega | (simp only [AH.size_new, AH.size_put] <;> omega) | fail) only [amR Tryd.prog ro X, amS, seval, reduceCtorEq, ty3, ty4, ty9, ty96]
  exact ⟨by rw [decide_eq_true (Prod.ext c1 (Prod.ext c2 (Prod.ext c3 (Prod.ext c4 (Prod.ext c5 (c6))))))], by ((repeat' (first | exact Ext.refl _ | assumption | refine Ext.trans ?_ (Ext.new _ _) | refine Ext.put ?_ ?_ _ | refine Ext.trans ?_ (by assumption))) <;> (first | omega | (simp only [AH.size_new, AH.size_put] <;> omega)))⟩
theorem to_Result (A : AH) (hro : ro ≤ A.size) (x : TResult) (cs : List Value) (F : List Nat) (h : Dat.rep A x cs F) (hz : Mk.sz x < 4294967296) :
    ACalls Tryd.prog ro X 37 [.agg cs.toArray] A (fun r A' => ∃ cs' F', r = .ret (.agg cs'.toArray) ∧ Dat.rep A' x cs' F' ∧ Fresh A F' A' ∧ Ext A A') := by
  obtain ⟨s1, G1, rfl, rfl, z1, h1⟩ := rep_Result.1 h
  have y1 := big_lt z1
  have hsz : Mk.sz x = 0 + (x.2.1.size + (szL Mk.sz x.2.2)) := rfl
  refine ACalls.enterQ (rs := [.cell 2 73]) Tryd.func37 rfl (by kernel_rfl) rfl ?_
  simp (maxSteps := 2000000) (disch := first | omega | (simp only [AH.size_new, AH.size_put] <;> omega) | fail) only [amR Tryd.prog ro X, amS, seval, reduceCtorEq, ty3, ty9, ty47, ty64, ty73]
  refine (toL_str _ (by first | omega | (simp only [AH.size_new, AH.size_put] <;> omega)) s1 _ _ (h1.ext (by ((repeat' (first | exact Ext.refl _ | assumption | refine Ext.trans ?_ (Ext.new _ _) | refine Ext.put ?_ ?_ _ | refine Ext.trans ?_ (by assumption))) <;> (first | omega | (simp only [AH.size_new, AH.size_put] <;> omega))))) (by omega)).mono ?_
  rintro r B1 ⟨t1, H1, rfl, q1, f1, hE1⟩
  have v1 := hE1.size
  try simp only [AH.size_new, AH.size_put] at v1
  simp (maxSteps := 2000000) (disch := first | omega | (simp only [AH.size_new, AH.size_put] <;> omega) | fail) only [amR Tryd.prog ro X, amS, seval, reduceCtorEq, ty3, ty9, ty47, ty64, ty73, hE1.get]
  exact ⟨_, _, rfl, rep_Result.2 ⟨t1, _, rfl, rfl, z1, q1.low f1.lo (by ((repeat' (first | exact Low.refl _ _ | assumption | refine Low.new ?_ _ | refine Low.put ?_ ?_ _ | refine Low.trans ?_ (Ext.low (by assumption) _))) <;> (first | omega | (simp only [AH.size_new, AH.size_put] <;> omega))))⟩, f1.mono (by first | omega | (simp only [AH.size_new, AH.size_put] <;> omega)) (by first | omega | (simp only [AH.size_new, AH.size_put] <;> omega)), by ((repeat' (first | exact Ext.refl _ | assumption | refine Ext.trans ?_ (Ext.new _ _) | refine Ext.put ?_ ?_ _ | refine Ext.trans ?_ (by assumption))) <;> (first | omega | (simp only [AH.size_new, AH.size_put] <;> omega)))⟩
theorem eq_Result (A : AH) (hro : ro ≤ A.size) (x y : TResult) (cs ds : List Value) (F F' : List Nat) (h : Dat.rep A x cs F) (h' : Dat.rep A y ds F') (hz : Mk.sz x < 4294967296) :
    ACalls Tryd.prog ro X 41 [.agg cs.toArray, .agg ds.toArray] A (fun r A' => r = .ret (.bool (decide (x = y))) ∧ Ext A A') := by
  obtain ⟨s1, G1, rfl, rfl, z1, h1⟩ := rep_Result.1 h
  obtain ⟨s1', G1', rfl, rfl, z1', h1'⟩ := rep_Result.1 h'
  have hsz : Mk.sz x = 0 + (x.2.1.size + (szL Mk.sz x.2.2)) := rfl
  refine ACalls.enterQ (rs := [.tmp 4]) Tryd.func41 rfl (by kernel_rfl) rfl ?_
  simp (maxSteps := 2000000) (disch := first | omega | (simp only [AH.size_new, AH.size_put] <;> omega) | fail) only [amR Tryd.prog ro X, amS, seval, reduceCtorEq, ty3, ty4, ty9, ty47, ty73]
  refine CondB.split (fun h => ?_) (fun h => ?_)
  · have hc : ¬ x.1 = y.1 := by simpa using h
    simp (maxSteps := 2000000) (disch := first | omega | (simp only [AH.size_new, AH.size_put] <;> omega) | fail) only [amR Tryd.prog ro X, amS, seval, reduceCtorEq, ty3, ty4, ty9, ty47, ty73]
    exact ⟨by rw [decide_eq_false (fun e => hc (by rw [e]))], by ((repeat' (first | exact Ext.refl _ | assumption | refine Ext.trans ?_ (Ext.new _ _) | refine Ext.put ?_ ?_ _ | refine Ext.trans ?_ (by assumption))) <;> (first | omega | (simp only [AH.size_new, AH.size_put] <;> omega)))⟩
  have c1 : x.1 = y.1 := by simpa using h
  simp (maxSteps := 2000000) (disch := first | omega | (simp only [AH.size_new, AH.size_put] <;> omega) | fail) only [amR Tryd.prog ro X, amS, seval, reduceCtorEq, ty3, ty4, ty9, ty47, ty73]
  refine CondB.split (fun h => ?_) (fun h => ?_)
  · have hc : ¬ x.2.1 = y.2.1 := by simpa using h
    simp (maxSteps := 2000000) (disch := first | omega | (simp only [AH.size_new, AH.size_put] <;> omega) | fail) only [amR Tryd.prog ro X, amS, seval, reduceCtorEq, ty3, ty4, ty9, ty47, ty73]
    exact ⟨by rw [decide_eq_false (fun e => hc (by rw [e]))], by ((repeat' (first | exact Ext.refl _ | assumption | refine Ext.trans ?_ (Ext.new _ _) | refine Ext.put ?_ ?_ _ | refine Ext.trans ?_ (by assumption))) <;> (first | omega | (simp only [AH.size_new, AH.size_put] <;> omega)))⟩
  have c2 : x.2.1 = y.2.1 := by simpa using h
  simp (maxSteps := 2000000) (disch := first | omega | (simp only [AH.size_new, AH.size_put] <;> omega) | fail) only [amR Tryd.prog ro X, amS, seval, reduceCtorEq, ty3, ty4, ty9, ty47, ty73]
  refine (eqL_str _ (by first | omega | (simp only [AH.size_new, AH.size_put] <;> omega)) s1 s1' _ _ _ _ (h1.ext (by ((repeat' (first | exact Ext.refl _ | assumption | refine Ext.trans ?_ (Ext.new _ _) | refine Ext.put ?_ ?_ _ | refine Ext.trans ?_ (by assumption))) <;> (first | omega | (simp only [AH.size_new, AH.size_put] <;> omega))))) (h1'.ext (by ((repeat' (first | exact Ext.refl _ | assumption | refine Ext.trans ?_ (Ext.new _ _) | refine Ext.put ?_ ?_ _ | refine Ext.trans ?_ (by assumption))) <;> (first | omega | (simp only [AH.size_new, AH.size_put] <;> omega))))) (by omega)).mono ?_
  rintro r B3 ⟨rfl, hE3⟩
  have v3 := hE3.size
  try simp only [AH.size_new, AH.size_put] at v3
  simp (maxSteps := 2000000) (disch := first | omega | (simp only [AH.size_new, AH.size_put] <;> omega) | fail) only [amR Tryd.prog ro X, amS, seval, reduceCtorEq, ty3, ty4, ty9, ty47, ty73, hE3.get]
  refine CondB.split (fun h => ?_) (fun h => ?_)
  · have hc : ¬ x.2.2 = y.2.2 := by simpa using h
    simp (maxSteps := 2000000) (disch := first | omega | (simp only [AH.size_new, AH.size_put] <;> omega) | fail) only [amR Tryd.prog ro X, amS, seval, reduceCtorEq, ty3, ty4, ty9, ty47, ty73, hE3.get]
    exact ⟨by rw [decide_eq_false (fun e => hc (by rw [e]))], by ((repeat' (first | exact Ext.refl _ | assumption | refine Ext.trans ?_ (Ext.new _ _) | refine Ext.put ?_ ?_ _ | refine Ext.trans ?_ (by assumption))) <;> (first | omega | (simp only [AH.size_new, AH.size_put] <;> omega)))⟩
  have c3 : x.2.2 = y.2.2 := by simpa using h
  simp (maxSteps := 2000000) (disch := first | omega | (simp only [AH.size_new, AH.size_put] <;> omega) | fail) only [amR Tryd.prog ro X, amS, seval, reduceCtorEq, ty3, ty4, ty9, ty47, ty73, hE3.get]
  exact ⟨by rw [decide_eq_true (Prod.ext c1 (Prod.ext c2 (c3)))], by ((repeat' (first | exact Ext.refl _ | assumption | refine Ext.trans ?_ (Ext.new _ _) | refine Ext.put ?_ ?_ _ | refine Ext.trans ?_ (by assumption))) <;> (first | omega | (simp only [AH.size_new, AH.size_put] <;> omega)))⟩
theorem sz_Result (A : AH) (hro : ro ≤ A.size) (x : TResult) (cs : List Value) (F : List Nat) (h : Dat.rep A x cs F) (hn : Mk.bd x) (left : Int) (hz : 0 ≤ left ∧ left ≤ 2097152) :
    ACalls Tryd.prog ro X 34 [.agg cs.toArray, .int .i64 left] A (fun r A' => r = .ret (.int .i64 (szR left (Mk.sz x))) ∧ Ext A A') := by
  obtain ⟨s1, G1, rfl, rfl, z1, h1⟩ := rep_Result.1 h
  have y1 := big_lt z1
  have hsz : Mk.sz x = 0 + (x.2.1.size + (szL Mk.sz x.2.2)) := rfl
  refine ACalls.enterQ (rs := [.tmp 4]) Tryd.func34 rfl (by kernel_rfl) rfl ?_
  simp (maxSteps := 2000000) (disch := first | omega | (simp only [AH.size_new, AH.size_put] <;> omega) | fail) only [amR Tryd.prog ro X, amS, seval, reduceCtorEq, ty3, ty9, ty47, ty64]
  refine CondB.split (fun h => ?_) (fun h => ?_)
  · have hc : left - (x.2.1.size : Nat) < 0 := by simpa using h
    simp (maxSteps := 2000000) (disch := first | omega | (simp only [AH.size_new, AH.size_put] <;> omega) | fail) only [amR Tryd.prog ro X, amS, seval, reduceCtorEq, ty3, ty9, ty47, ty64]
    exact ⟨(by rw [szR_neg (by omega : left - (Mk.sz x : Nat) < 0)]), by ((repeat' (first | exact Ext.refl _ | assumption | refine Ext.trans ?_ (Ext.new _ _) | refine Ext.put ?_ ?_ _ | refine Ext.trans ?_ (by assumption))) <;> (first | omega | (simp only [AH.size_new, AH.size_put] <;> omega)))⟩
  have c1 : ¬ (left - (x.2.1.size : Nat) < 0) := by simpa using h
  simp (maxSteps := 2000000) (disch := first | omega | (simp only [AH.size_new, AH.size_put] <;> omega) | fail) only [amR Tryd.prog ro X, amS, seval, reduceCtorEq, ty3, ty9, ty47, ty64]
  refine (szL_str _ (by first | omega | (simp only [AH.size_new, AH.size_put] <;> omega)) s1 _ _ (h1.ext (by ((repeat' (first | exact Ext.refl _ | assumption | refine Ext.trans ?_ (Ext.new _ _) | refine Ext.put ?_ ?_ _ | refine Ext.trans ?_ (by assumption))) <;> (first | omega | (simp only [AH.size_new, AH.size_put] <;> omega))))) hn.2.2 (left - (x.2.1.size : Nat)) (by omega)).mono ?_
  rintro r B2 ⟨rfl, hE2⟩
  have v2 := hE2.size
  try simp only [AH.size_new, AH.size_put] at v2
  by_cases c2 : left - (x.2.1.size : Nat) - (szL Mk.sz x.2.2 : Nat) < 0
  · rw [szR_neg c2]
    simp (maxSteps := 2000000) (disch := first | omega | (simp only [AH.size_new, AH.size_put] <;> omega) | fail) only [amR Tryd.prog ro X, amS, seval, reduceCtorEq, ty3, ty9, ty47, ty64, hE2.get]
    exact ⟨(by rw [szR_neg (by omega : left - (Mk.sz x : Nat) < 0)]), by ((repeat' (first | exact Ext.refl _ | assumption | refine Ext.trans ?_ (Ext.new _ _) | refine Ext.put ?_ ?_ _ | refine Ext.trans ?_ (by assumption))) <;> (first | omega | (simp only [AH.size_new, AH.size_put] <;> omega)))⟩
  rw [szR_pos c2]
  simp (maxSteps := 2000000) (disch := first | omega | (simp only [AH.size_new, AH.size_put] <;> omega) | fail) only [amR Tryd.prog ro X, amS, seval, reduceCtorEq, ty3, ty9, ty47, ty64, hE2.get, c2]
  exact ⟨by rw [szR_pos (by omega : ¬ left - (Mk.sz x : Nat) < 0)]; congr 2 <;> omega, by ((repeat' (first | exact Ext.refl _ | assumption | refine Ext.trans ?_ (Ext.new _ _) | refine Ext.put ?_ ?_ _ | refine Ext.trans ?_ (by assumption))) <;> (first | omega | (simp only [AH.size_new, AH.size_put] <;> omega)))⟩
theorem to_Seen (A : AH) (hro : ro ≤ A.size) (x : TSeen) (cs : List Value) (F : List Nat) (h : Dat.rep A x cs F) (hz : Mk.sz x < 4294967296) :
    ACalls Tryd.prog ro X 102 [.agg cs.toArray] A (fun r A' => ∃ cs' F', r = .ret (.agg cs'.toArray) ∧ Dat.rep A' x cs' F' ∧ Fresh A F' A' ∧ Ext A A') := by
  obtain ⟨rfl, rfl, z1, z2⟩ := rep_Seen.1 h
  have y1 := big_lt z1
  have y2 := big_lt z2
  have hsz : Mk.sz x = x.1.size + (0 + (x.2.2.size)) := rfl
  refine ACalls.enterQ (rs := [.cell 2 151]) Tryd.func102 rfl (by kernel_rfl) rfl ?_
  simp (maxSteps := 2000000) (disch := first | omega | (simp only [AH.size_new, AH.size_put] <;> omega) | fail) only [amR Tryd.prog ro X, amS, seval, reduceCtorEq, ty4, ty9, ty148, ty151]
  exact ⟨_, _, rfl, rep_Seen.2 ⟨rfl, rfl, z1, z2⟩, Fresh.nil _ _, by ((repeat' (first | exact Ext.refl _ | assumption | refine Ext.trans ?_ (Ext.new _ _) | refine Ext.put ?_ ?_ _ | refine Ext.trans ?_ (by assumption))) <;> (first | omega | (simp only [AH.size_new, AH.size_put] <;> omega)))⟩
theorem toL_Seen (A : AH) (hro : ro ≤ A.size) (s : Sl) (l : List TSeen) (F : List Nat) (hs : SlR A s l F) (hz : szL Mk.sz l < 4294967296) :
    ACalls Tryd.prog ro X 36 [s.v] A (fun r A' => ∃ t G, r = .ret t.v ∧ SlR A' t l G ∧ Fresh A G A' ∧ Ext A A') := by
  have hl := szL_length Mk.sz l
  refine ACalls.enterQ (rs := [.tmp 2]) Tryd.func36 rfl (by kernel_rfl) rfl ?_
  simp (maxSteps := 2000000) (disch := first | omega | (simp only [AH.size_new, AH.size_put] <;> omega) | fail) only [amR Tryd.prog ro X, amS, seval, reduceCtorEq, ty3, ty4, ty9, ty62, ty71, ty148, ty151, hs.len]
  refine Wp.loopC (fun n e A' => Ext A A' ∧ A.size < A'.size ∧ e 0 = s.v ∧ e 3 = (Sl.mk false A.size 0 l.length l.length).v ∧ ∃ i : Nat, i ≤ l.length ∧ n = l.length - i ∧ e 4 = .int .i64 i ∧ ∃ G, Part A' A.size l.length (l.take i) G ∧ Fresh (A.new .dead) G A') (l.length - 0) ?_ ?_
  · simp (maxSteps := 2000000) (disch := first | omega | (simp only [AH.size_new, AH.size_put] <;> omega) | fail) only [amV, amH, amQ, amL, amN Tryd.prog, amS, seval, reduceCtorEq, ty3, ty4, ty9, ty62, ty71, ty148, ty151]
    refine ⟨Ext.new A _, by omega, 0, by omega, rfl, rfl, [], ?_, Fresh.nil _ _⟩
    rw [List.take_zero]
    exact Part.start (by simp [AH.size_new]) (AH.get_new_self _ _) (fill_flat _ _ _ rfl)
  · rintro n e A' ⟨hE, hlt, h0, h3, i, hi, rfl, h4, G, hp, hf⟩
    have hs' := hs.ext hE
    simp (maxSteps := 2000000) (disch := first | omega | (simp only [AH.size_new, AH.size_put] <;> omega) | fail) only [amR Tryd.prog ro X, amS, seval, reduceCtorEq, ty3, ty4, ty9, ty62, ty71, ty148, ty151, h0, h3, h4, hs.len]
    refine CondB.split (fun h => ?_) (fun h => ?_)
    · have hil : i < l.length := by simp at h; omega
      obtain ⟨n1, b1, m1, i1, cs, Fi, c1, q1, _⟩ := hs'.row hil
      rw [aRow_eq] at c1
      have hw : Dat.w TSeen = 3 := rfl
      rw [hw] at c1
      have hzi := szL_get Mk.sz l i hil
      simp (maxSteps := 2000000) (disch := first | omega | (simp only [AH.size_new, AH.size_put] <;> omega) | fail) only [amR Tryd.prog ro X, amS, seval, reduceCtorEq, ty3, ty4, ty9, ty62, ty71, ty148, ty151, h0, h3, h4, n1, c1]
      refine (to_Seen _ (by omega) l[i] cs Fi q1 (by omega)).mono ?_
      rintro r A2 ⟨cs', F', rfl, q2, f2, hE2⟩
      have v2 := hE2.size
      have hp2 := hp.ext hE2
      have hl2 : cs'.length = 3 := Dat.len q2
      obtain ⟨hlt2, ⟨c, g1, g2, g3⟩, hle⟩ := id hp2
      have hwl : (i + 1) * 3 ≤ l.length * 3 := Nat.mul_le_mul_right _ hil
      rw [hw] at g1 g2
      simp (maxSteps := 2000000) (disch := first | omega | (simp only [AH.size_new, AH.size_put] <;> omega) | fail) only [amR Tryd.prog ro X, amS, seval, reduceCtorEq, ty3, ty4, ty9, ty62, ty71, ty148, ty151, h0, h3, h4, g1, hl2]
      refine ⟨l.length - (i + 1), by omega, (hE.trans hE2).put (Nat.le_refl _) _, by omega, i + 1, by omega, rfl, by simp, G ++ F', ?_, (hf.mono (Nat.le_refl _) (Nat.le_refl _)).append (f2.mono (Nat.le_refl _) (Nat.le_refl _)) (by simp [AH.size_new]; omega) v2⟩
      have := hp2.store (fun hm => by have := hf.lo _ hm; simp [AH.size_new] at this; omega) q2 (fun hm => by have := f2.lo _ hm; omega) (by simp; omega) g1
      rw [List.take_succ_eq_append_getElem hil]
      rw [List.length_take, Nat.min_eq_left hi, hw] at this
      exact this
    · have hil : i = l.length := by simp at h; omega
      subst hil
      simp (maxSteps := 2000000) (disch := first | omega | (simp only [AH.size_new, AH.size_put] <;> omega) | fail) only [amR Tryd.prog ro X, amS, seval, reduceCtorEq, ty3, ty4, ty9, ty62, ty71, ty148, ty151, h3]
      rw [List.take_length] at hp
      exact ⟨_, _, rfl, hp.done rfl (by unfold BIG; omega), Fresh.cons (Nat.le_refl _) (by simp [AH.size_new]) hf (by simp only [AH.size_new]; omega) (by simp only [AH.size_new]; omega), hE⟩
theorem eq_Seen (A : AH) (hro : ro ≤ A.size) (x y : TSeen) (cs ds : List Value) (F F' : List Nat) (h : Dat.rep A x cs F) (h' : Dat.rep A y ds F') (hz : Mk.sz x < 4294967296) :
    ACalls Tryd.prog ro X 106 [.agg cs.toArray, .agg ds.toArray] A (fun r A' => r = .ret (.bool (decide (x = y))) ∧ Ext A A') := by
  obtain ⟨rfl, rfl, z1, z2⟩ := rep_Seen.1 h
  obtain ⟨rfl, rfl, z1', z2'⟩ := rep_Seen.1 h'
  have hsz : Mk.sz x = x.1.size + (0 + (x.2.2.size)) := rfl
  refine ACalls.enterQ (rs := [.tmp 4]) Tryd.func106 rfl (by kernel_rfl) rfl ?_
  simp (maxSteps := 2000000) (disch := first | omega | (simp only [AH.size_new, AH.size_put] <;> omega) | fail) only [amR Tryd.prog ro X, amS, seval, reduceCtorEq, ty4, ty9, ty151]
  refine CondB.split (fun h => ?_) (fun h => ?_)
  · have hc : ¬ x.1 = y.1 := by simpa using h
    simp (maxSteps := 2000000) (disch := first | omega | (simp only [AH.size_new, AH.size_put] <;> omega) | fail) only [amR Tryd.prog ro X, amS, seval, reduceCtorEq, ty4, ty9, ty151]
    exact ⟨by rw [decide_eq_false (fun e => hc (by rw [e]))], by ((repeat' (first | exact Ext.refl _ | assumption | refine Ext.trans ?_ (Ext.new _ _) | refine Ext.put ?_ ?_ _ | refine Ext.trans ?_ (by assumption))) <;> (first | omega | (simp only [AH.size_new, AH.size_put] <;> omega)))⟩
  have c1 : x.1 = y.1 := by simpa using h
  simp (maxSteps := 2000000) (disch := first | omega | (simp only [AH.size_new, AH.size_put] <;> omega) | fail) only [amR Tryd.prog ro X, amS, seval, reduceCtorEq, ty4, ty9, ty151]
  refine CondB.split (fun h => ?_) (fun h => ?_)
  · have hc : ¬ x.2.1 = y.2.1 := by simpa using h
    simp (maxSteps := 2000000) (disch := first | omega | (simp only [AH.size_new, AH.size_put] <;> omega) | fail) only [amR Tryd.prog ro X, amS, seval, reduceCtorEq, ty4, ty9, ty151]
    exact ⟨by rw [decide_eq_false (fun e => hc (by rw [e]))], by ((repeat' (first | exact Ext.refl _ | assumption | refine Ext.trans ?_ (Ext.new _ _) | refine Ext.put ?_ ?_ _ | refine Ext.trans ?_ (by assumption))) <;> (first | omega | (simp only [AH.size_new, AH.size_put] <;> omega)))⟩
  have c2 : x.2.1 = y.2.1 := by simpa using h
  simp (maxSteps := 2000000) (disch := first | omega | (simp only [AH.size_new, AH.size_put] <;> omega) | fail) only [amR Tryd.prog ro X, amS, seval, reduceCtorEq, ty4, ty9, ty151]
  refine CondB.split (fun h => ?_) (fun h => ?_)
  · have hc : ¬ x.2.2 = y.2.2 := by simpa using h
    simp (maxSteps := 2000000) (disch := first | omega | (simp only [AH.size_new, AH.size_put] <;> omega) | fail) only [amR Tryd.prog ro X, amS, seval, reduceCtorEq, ty4, ty9, ty151]
    exact ⟨by rw [decide_eq_false (fun e => hc (by rw [e]))], by ((repeat' (first | exact Ext.refl _ | assumption | refine Ext.trans ?_ (Ext.new _ _) | refine Ext.put ?_ ?_ _ | refine Ext.trans ?_ (by assumption))) <;> (first | omega | (simp only [AH.size_new, AH.size_put] <;> omega)))⟩
  have c3 : x.2.2 = y.2.2 := by simpa using h
  simp (maxSteps := 2000000) (disch := first | omega | (simp only [AH.size_new, AH.size_put] <;> omega) | fail) only [amR Tryd.prog ro X, amS, seval, reduceCtorEq, ty4, ty9, ty151]
  exact ⟨by rw [decide_eq_true (Prod.ext c1 (Prod.ext c2 (c3)))], by ((repeat' (first | exact Ext.refl _ | assumption | refine Ext.trans ?_ (Ext.new _ _) | refine Ext.put ?_ ?_ _ | refine Ext.trans ?_ (by assumption))) <;> (first | omega | (simp only [AH.size_new, AH.size_put] <;> omega)))⟩
theorem eqL_Seen (A : AH) (hro : ro ≤ A.size) (s t : Sl) (l k : List TSeen) (F G : List Nat) (hs : SlR A s l F) (ht : SlR A t k G) (hz : szL Mk.sz l < 4294967296) :
    ACalls Tryd.prog ro X 40 [s.v, t.v] A (fun r A' => r = .ret (.bool (decide (l = k))) ∧ Ext A A') := by
  have hl := szL_length Mk.sz l
  have hw : Dat.w TSeen = 3 := rfl
  refine ACalls.enterQ (rs := [.tmp 4]) Tryd.func40 rfl (by kernel_rfl) rfl ?_
  simp (maxSteps := 2000000) (disch := first | omega | (simp only [AH.size_new, AH.size_put] <;> omega) | fail) only [amR Tryd.prog ro X, amS, seval, reduceCtorEq, ty3, ty4, ty9, ty71, ty151, hs.len, ht.len]
  refine CondB.split (fun h => ?_) (fun h => ?_)
  · simp (maxSteps := 2000000) (disch := first | omega | (simp only [AH.size_new, AH.size_put] <;> omega) | fail) only [amR Tryd.prog ro X, amS, seval, reduceCtorEq, ty3, ty4, ty9, ty71, ty151]
    have : l ≠ k := fun e => by simp [e] at h
    simp [this, Ext.refl]
  · simp (maxSteps := 2000000) (disch := first | omega | (simp only [AH.size_new, AH.size_put] <;> omega) | fail) only [amR Tryd.prog ro X, amS, seval, reduceCtorEq, ty3, ty4, ty9, ty71, ty151]
    have hlk : l.length = k.length := by simp at h; omega
    refine Wp.loopC (fun n e A' => Ext A A' ∧ e 0 = s.v ∧ e 1 = t.v ∧ ∃ i : Nat, i ≤ l.length ∧ n = l.length - i ∧ e 5 = .int .i64 i ∧ l.take i = k.take i) (l.length - 0) ?_ ?_
    · simp (maxSteps := 2000000) (disch := first | omega | (simp only [AH.size_new, AH.size_put] <;> omega) | fail) only [amV, amH, amQ, amL, amN Tryd.prog, amS, seval, reduceCtorEq, ty3, ty4, ty9, ty71, ty151]
      exact ⟨Ext.refl A, 0, by simp, rfl, rfl, by simp⟩
    · rintro n e A' ⟨hE, h0, h1, i, hi, rfl, h5, heq⟩
      have v1 := hE.size
      simp (maxSteps := 2000000) (disch := first | omega | (simp only [AH.size_new, AH.size_put] <;> omega) | fail) only [amR Tryd.prog ro X, amS, seval, reduceCtorEq, ty3, ty4, ty9, ty71, ty151, h0, h1, h5, hs.len]
      refine CondB.split (fun h => ?_) (fun h => ?_)
      · simp (maxSteps := 2000000) (disch := first | omega | (simp only [AH.size_new, AH.size_put] <;> omega) | fail) only [amR Tryd.prog ro X, amS, seval, reduceCtorEq, ty3, ty4, ty9, ty71, ty151]
        have hil : i < l.length := by simp at h; omega
        obtain ⟨n1, b1, m1, i1, cs, Fi, c1, q1, _⟩ := (hs.ext hE).row hil
        obtain ⟨n2, b2, m2, i2, ds, Gi, c2, q2, _⟩ := (ht.ext hE).row (i := i) (by omega)
        rw [aRow_eq, hw] at c1 c2
        have hzi := szL_get Mk.sz l i hil
        refine Wp.runG [] (by kernel_rfl) (.inl (by kernel_rfl)) ?_
        simp (maxSteps := 2000000) (disch := first | omega | (simp only [AH.size_new, AH.size_put] <;> omega) | fail) only [amR Tryd.prog ro X, amS, seval, reduceCtorEq, ty3, ty4, ty9, ty71, ty151, h0, h1, h5, n1, n2, c1, c2]
        refine (eq_Seen _ (by omega) l[i] k[i] cs ds Fi Gi q1 q2 (by omega)).mono ?_
        rintro r A2 ⟨rfl, hE2⟩
        simp (maxSteps := 2000000) (disch := first | omega | (simp only [AH.size_new, AH.size_put] <;> omega) | fail) only [amR Tryd.prog ro X, amS, seval, reduceCtorEq, ty3, ty4, ty9, ty71, ty151]
        refine CondB.split (fun h => ?_) (fun h => ?_)
        · simp (maxSteps := 2000000) (disch := first | omega | (simp only [AH.size_new, AH.size_put] <;> omega) | fail) only [amR Tryd.prog ro X, amS, seval, reduceCtorEq, ty3, ty4, ty9, ty71, ty151]
          have : l ≠ k := by
            intro e
            subst e
            simp at h
          simp [this, hE.trans hE2]
        · simp (maxSteps := 2000000) (disch := first | omega | (simp only [AH.size_new, AH.size_put] <;> omega) | fail) only [amR Tryd.prog ro X, amS, seval, reduceCtorEq, ty3, ty4, ty9, ty71, ty151, h0, h1, h5]
          refine ⟨l.length - (i + 1), by omega, hE.trans hE2, i + 1, by omega, rfl, by simp, ?_⟩
          rw [List.take_succ_eq_append_getElem hil, List.take_succ_eq_append_getElem (by omega : i < k.length), heq]
          have : l[i] = k[i] := by simpa using h
          rw [this]
      · simp (maxSteps := 2000000) (disch := first | omega | (simp only [AH.size_new, AH.size_put] <;> omega) | fail) only [amR Tryd.prog ro X, amS, seval, reduceCtorEq, ty3, ty4, ty9, ty71, ty151]
        have : l = k := by
          have hi2 : i = l.length := by simp at h; omega
          subst hi2
          rw [List.take_length] at heq
          rw [hlk, List.take_length] at heq
          exact heq
        simp [this, hE]
theorem sz_Seen (A : AH) (hro : ro ≤ A.size) (x : TSeen) (cs : List Value) (F : List Nat) (h : Dat.rep A x cs F) (hn : Mk.bd x) (left : Int) (hz : 0 ≤ left ∧ left ≤ 2097152) :
    ACalls Tryd.prog ro X 99 [.agg cs.toArray, .int .i64 left] A (fun r A' => r = .ret (.int .i64 (szR left (Mk.sz x))) ∧ Ext A A') := by
  obtain ⟨rfl, rfl, z1, z2⟩ := rep_Seen.1 h
  have y1 := big_lt z1
  have y2 := big_lt z2
  have hsz : Mk.sz x = x.1.size + (0 + (x.2.2.size)) := rfl
  refine ACalls.enterQ (rs := [.tmp 4]) Tryd.func99 rfl (by kernel_rfl) rfl ?_
  simp (maxSteps := 2000000) (disch := first | omega | (simp only [AH.size_new, AH.size_put] <;> omega) | fail) only [amR Tryd.prog ro X, amS, seval, reduceCtorEq, ty3, ty4, ty9, ty148]
  refine CondB.split (fun h => ?_) (fun h => ?_)
  · have hc : left - (x.1.size : Nat) < 0 := by simpa using h
    simp (maxSteps := 2000000) (disch := first | omega | (simp only [AH.size_new, AH.size_put] <;> omega) | fail) only [amR Tryd.prog ro X, amS, seval, reduceCtorEq, ty3, ty4, ty9, ty148]
    exact ⟨(by rw [szR_neg (by omega : left - (Mk.sz x : Nat) < 0)]), by ((repeat' (first | exact Ext.refl _ | assumption | refine Ext.trans ?_ (Ext.new _ _) | refine Ext.put ?_ ?_ _ | refine Ext.trans ?_ (by assumption))) <;> (first | omega | (simp only [AH.size_new, AH.size_put] <;> omega)))⟩
  have c1 : ¬ (left - (x.1.size : Nat) < 0) := by simpa using h
  simp (maxSteps := 2000000) (disch := first | omega | (simp only [AH.size_new, AH.size_put] <;> omega) | fail) only [amR Tryd.prog ro X, amS, seval, reduceCtorEq, ty3, ty4, ty9, ty148]
  refine CondB.split (fun h => ?_) (fun h => ?_)
  · have hc : left - (x.1.size : Nat) - (x.2.2.size : Nat) < 0 := by simpa using h
    simp (maxSteps := 2000000) (disch := first | omega | (simp only [AH.size_new, AH.size_put] <;> omega) | fail) only [amR Tryd.prog ro X, amS, seval, reduceCtorEq, ty3, ty4, ty9, ty148]
    exact ⟨(by rw [szR_neg (by omega : left - (Mk.sz x : Nat) < 0)]), by ((repeat' (first | exact Ext.refl _ | assumption | refine Ext.trans ?_ (Ext.new _ _) | refine Ext.put ?_ ?_ _ | refine Ext.trans ?_ (by assumption))) <;> (first | omega | (simp only [AH.size_new, AH.size_put] <;> omega)))⟩
  have c2 : ¬ (left - (x.1.size : Nat) - (x.2.2.size : Nat) < 0) := by simpa using h
  simp (maxSteps := 2000000) (disch := first | omega | (simp only [AH.size_new, AH.size_put] <;> omega) | fail) only [amR Tryd.prog ro X, amS, seval, reduceCtorEq, ty3, ty4, ty9, ty148]
  exact ⟨by rw [szR_pos (by omega : ¬ left - (Mk.sz x : Nat) < 0)]; congr 2 <;> omega, by ((repeat' (first | exact Ext.refl _ | assumption | refine Ext.trans ?_ (Ext.new _ _) | refine Ext.put ?_ ?_ _ | refine Ext.trans ?_ (by assumption))) <;> (first | omega | (simp only [AH.size_new, AH.size_put] <;> omega)))⟩
theorem szL_Seen (A : AH) (hro : ro ≤ A.size) (s : Sl) (l : List TSeen) (F : List Nat) (hs : SlR A s l F) (hn : Mk.bd l) (left : Int) (hz : 0 ≤ left ∧ left ≤ 2097152) :
    ACalls Tryd.prog ro X 33 [s.v, .int .i64 left] A (fun r A' => r = .ret (.int .i64 (szR left (szL Mk.sz l))) ∧ Ext A A') := by
  have hl := hn.1
  have hw : Dat.w TSeen = 3 := rfl
  refine ACalls.enterQ (rs := [.tmp 4]) Tryd.func33 rfl (by kernel_rfl) rfl ?_
  simp (maxSteps := 2000000) (disch := first | omega | (simp only [AH.size_new, AH.size_put] <;> omega) | fail) only [amR Tryd.prog ro X, amS, seval, reduceCtorEq, ty3, ty4, ty9, ty62, ty148, hs.len]
  refine CondB.split (fun h => ?_) (fun h => ?_)
  · simp (maxSteps := 2000000) (disch := first | omega | (simp only [AH.size_new, AH.size_put] <;> omega) | fail) only [amR Tryd.prog ro X, amS, seval, reduceCtorEq, ty3, ty4, ty9, ty62, ty148]
    have h2 : left - l.length < 0 := by simpa using h
    have := szL_length Mk.sz l
    exact ⟨by rw [szR_neg (by omega)], Ext.refl A⟩
  · simp (maxSteps := 2000000) (disch := first | omega | (simp only [AH.size_new, AH.size_put] <;> omega) | fail) only [amR Tryd.prog ro X, amS, seval, reduceCtorEq, ty3, ty4, ty9, ty62, ty148]
    refine Wp.loopC (fun n e A' => Ext A A' ∧ e 0 = s.v ∧ ∃ i : Nat, i ≤ l.length ∧ n = l.length - i ∧ e 5 = .int .i64 i ∧ e 1 = .int .i64 (left - szL Mk.sz (l.take i) + i - l.length) ∧ 0 ≤ left - szL Mk.sz (l.take i) + i - l.length) (l.length - 0) ?_ ?_
    · simp (maxSteps := 2000000) (disch := first | omega | (simp only [AH.size_new, AH.size_put] <;> omega) | fail) only [amV, amH, amQ, amL, amN Tryd.prog, amS, seval, reduceCtorEq, ty3, ty4, ty9, ty62, ty148]
      refine ⟨Ext.refl A, 0, by omega, rfl, rfl, ?_⟩
      have : 0 ≤ left - l.length := by simpa using h
      simp only [List.take_zero, szL_nil]
      exact ⟨by congr 1 <;> omega, by omega⟩
    · rintro n e A' ⟨hE, h0, i, hi, rfl, h5, h1, hle⟩
      have v1 := hE.size
      simp (maxSteps := 2000000) (disch := first | omega | (simp only [AH.size_new, AH.size_put] <;> omega) | fail) only [amR Tryd.prog ro X, amS, seval, reduceCtorEq, ty3, ty4, ty9, ty62, ty148, h0, h5, hs.len]
      refine CondB.split (fun h => ?_) (fun h => ?_)
      · have hil : i < l.length := by simp at h; omega
        obtain ⟨n1, b1, m1, i1, cs, Fi, c1, q1, _⟩ := (hs.ext hE).row hil
        rw [aRow_eq, hw] at c1
        have hst := szL_take_succ Mk.sz l i hil
        have hge := szL_take_le Mk.sz l (i + 1)
        have hge0 := szL_take_le Mk.sz l i
        have hti := szL_length Mk.sz (l.take i)
        rw [List.length_take, Nat.min_eq_left hi] at hti
        simp (maxSteps := 2000000) (disch := first | omega | (simp only [AH.size_new, AH.size_put] <;> omega) | fail) only [amR Tryd.prog ro X, amS, seval, reduceCtorEq, ty3, ty4, ty9, ty62, ty148, h0, h1, h5, n1, c1]
        refine (sz_Seen _ (by omega) l[i] cs Fi q1 (hn.2 _ (List.getElem_mem hil)) _ ⟨hle, by omega⟩).mono ?_
        rintro r A2 ⟨rfl, hE2⟩
        by_cases hc : left - szL Mk.sz (l.take i) + i - l.length - (Mk.sz l[i] : Nat) < 0
        · rw [szR_neg hc]
          simp (maxSteps := 2000000) (disch := first | omega | (simp only [AH.size_new, AH.size_put] <;> omega) | fail) only [amR Tryd.prog ro X, amS, seval, reduceCtorEq, ty3, ty4, ty9, ty62, ty148]
          exact ⟨by rw [szR_neg (by omega)], hE.trans hE2⟩
        · rw [szR_pos hc]
          simp (maxSteps := 2000000) (disch := first | omega | (simp only [AH.size_new, AH.size_put] <;> omega) | fail) only [amR Tryd.prog ro X, amS, seval, reduceCtorEq, ty3, ty4, ty9, ty62, ty148, h0, h5, hc]
          exact ⟨l.length - (i + 1), by omega, hE.trans hE2, i + 1, by omega, rfl, rfl, by congr 1 <;> omega, by omega⟩
      · have hil : i = l.length := by simp at h; omega
        subst hil
        rw [List.take_length] at h1 hle
        simp (maxSteps := 2000000) (disch := first | omega | (simp only [AH.size_new, AH.size_put] <;> omega) | fail) only [amR Tryd.prog ro X, amS, seval, reduceCtorEq, ty3, ty4, ty9, ty62, ty148, h1]
        exact ⟨by rw [szR_pos (by omega)]; congr 2; omega, hE⟩
theorem to_Glance (A : AH) (hro : ro ≤ A.size) (x : TGlance) (cs : List Value) (F : List Nat) (h : Dat.rep A x cs F) (hz : Mk.sz x < 4294967296) :
    ACalls Tryd.prog ro X 187 [.agg cs.toArray] A (fun r A' => ∃ cs' F', r = .ret (.agg cs'.toArray) ∧ Dat.rep A' x cs' F' ∧ Fresh A F' A' ∧ Ext A A') := by
  obtain ⟨rfl, rfl, z1, z2⟩ := rep_Glance.1 h
  have y1 := big_lt z1
  have y2 := big_lt z2
  have hsz : Mk.sz x = x.1.size + (0 + (x.2.2.size)) := rfl
  refine ACalls.enterQ (rs := [.cell 2 153]) Tryd.func187 rfl (by kernel_rfl) rfl ?_
  simp (maxSteps := 2000000) (disch := first | omega | (simp only [AH.size_new, AH.size_put] <;> omega) | fail) only [amR Tryd.prog ro X, amS, seval, reduceCtorEq, ty4, ty9, ty153, ty234]
  exact ⟨_, _, rfl, rep_Glance.2 ⟨rfl, rfl, z1, z2⟩, Fresh.nil _ _, by ((repeat' (first | exact Ext.refl _ | assumption | refine Ext.trans ?_ (Ext.new _ _) | refine Ext.put ?_ ?_ _ | refine Ext.trans ?_ (by assumption))) <;> (first | omega | (simp only [AH.size_new, AH.size_put] <;> omega)))⟩
theorem toL_Glance (A : AH) (hro : ro ≤ A.size) (s : Sl) (l : List TGlance) (F : List Nat) (hs : SlR A s l F) (hz : szL Mk.sz l < 4294967296) :
    ACalls Tryd.prog ro X 179 [s.v] A (fun r A' => ∃ t G, r = .ret t.v ∧ SlR A' t l G ∧ Fresh A G A' ∧ Ext A A') := by
  have hl := szL_length Mk.sz l
  refine ACalls.enterQ (rs := [.tmp 2]) Tryd.func179 rfl (by kernel_rfl) rfl ?_
  simp (maxSteps := 2000000) (disch := first | omega | (simp only [AH.size_new, AH.size_put] <;> omega) | fail) only [amR Tryd.prog ro X, amS, seval, reduceCtorEq, ty3, ty4, ty9, ty67, ty153, ty206, ty234, hs.len]
  refine Wp.loopC (fun n e A' => Ext A A' ∧ A.size < A'.size ∧ e 0 = s.v ∧ e 3 = (Sl.mk false A.size 0 l.length l.length).v ∧ ∃ i : Nat, i ≤ l.length ∧ n = l.length - i ∧ e 4 = .int .i64 i ∧ ∃ G, Part A' A.size l.length (l.take i) G ∧ Fresh (A.new .dead) G A') (l.length - 0) ?_ ?_
  · simp (maxSteps := 2000000) (disch := first | omega | (simp only [AH.size_new, AH.size_put] <;> omega) | fail) only [amV, amH, amQ, amL, amN Tryd.prog, amS, seval, reduceCtorEq, ty3, ty4, ty9, ty67, ty153, ty206, ty234]
    refine ⟨Ext.new A _, by omega, 0, by omega, rfl, rfl, [], ?_, Fresh.nil _ _⟩
    rw [List.take_zero]
    exact Part.start (by simp [AH.size_new]) (AH.get_new_self _ _) (fill_flat _ _ _ rfl)
  · rintro n e A' ⟨hE, hlt, h0, h3, i, hi, rfl, h4, G, hp, hf⟩
    have hs' := hs.ext hE
    simp (maxSteps := 2000000) (disch := first | omega | (simp only [AH.size_new, AH.size_put] <;> omega) | fail) only [amR Tryd.prog ro X, amS, seval, reduceCtorEq, ty3, ty4, ty9, ty67, ty153, ty206, ty234, h0, h3, h4, hs.len]
    refine CondB.split (fun h => ?_) (fun h => ?_)
    · have hil : i < l.length := by simp at h; omega
      obtain ⟨n1, b1, m1, i1, cs, Fi, c1, q1, _⟩ := hs'.row hil
      rw [aRow_eq] at c1
      have hw : Dat.w TGlance = 3 := rfl
      rw [hw] at c1
      have hzi := szL_get Mk.sz l i hil
      simp (maxSteps := 2000000) (disch := first | omega | (simp only [AH.size_new, AH.size_put] <;> omega) | fail) only [amR Tryd.prog ro X, amS, seval, reduceCtorEq, ty3, ty4, ty9, ty67, ty153, ty206, ty234, h0, h3, h4, n1, c1]
      refine (to_Glance _ (by omega) l[i] cs Fi q1 (by omega)).mono ?_
      rintro r A2 ⟨cs', F', rfl, q2, f2, hE2⟩
      have v2 := hE2.size
      have hp2 := hp.ext hE2
      have hl2 : cs'.length = 3 := Dat.len q2
      obtain ⟨hlt2, ⟨c, g1, g2, g3⟩, hle⟩ := id hp2
      have hwl : (i + 1) * 3 ≤ l.length * 3 := Nat.mul_le_mul_right _ hil
      rw [hw] at g1 g2
      simp (maxSteps := 2000000) (disch := first | omega | (simp only [AH.size_new, AH.size_put] <;> omega) | fail) only [amR Tryd.prog ro X, amS, seval, reduceCtorEq, ty3, ty4, ty9, ty67, ty153, ty206, ty234, h0, h3, h4, g1, hl2]
      refine ⟨l.length - (i + 1), by omega, (hE.trans hE2).put (Nat.le_refl _) _, by omega, i + 1, by omega, rfl, by simp, G ++ F', ?_, (hf.mono (Nat.le_refl _) (Nat.le_refl _)).append (f2.mono (Nat.le_refl _) (Nat.le_refl _)) (by simp [AH.size_new]; omega) v2⟩
      have := hp2.store (fun hm => by have := hf.lo _ hm; simp [AH.size_new] at this; omega) q2 (fun hm => by have := f2.lo _ hm; omega) (by simp; omega) g1
      rw [List.take_succ_eq_append_getElem hil]
      rw [List.length_take, Nat.min_eq_left hi, hw] at this
      exact this
    · have hil : i = l.length := by simp at h; omega
      subst hil
      simp (maxSteps := 2000000) (disch := first | omega | (simp only [AH.size_new, AH.size_put] <;> omega) | fail) only [amR Tryd.prog ro X, amS, seval, reduceCtorEq, ty3, ty4, ty9, ty67, ty153, ty206, ty234, h3]
      rw [List.take_length] at hp
      exact ⟨_, _, rfl, hp.done rfl (by unfold BIG; omega), Fresh.cons (Nat.le_refl _) (by simp [AH.size_new]) hf (by simp only [AH.size_new]; omega) (by simp only [AH.size_new]; omega), hE⟩
theorem eq_Glance (A : AH) (hro : ro ≤ A.size) (x y : TGlance) (cs ds : List Value) (F F' : List Nat) (h : Dat.rep A x cs F) (h' : Dat.rep A y ds F') (hz : Mk.sz x < 4294967296) :
    ACalls Tryd.prog ro X 160 [.agg cs.toArray, .agg ds.toArray] A (fun r A' => r = .ret (.bool (decide (x = y))) ∧ Ext A A') := by
  obtain ⟨rfl, rfl, z1, z2⟩ := rep_Glance.1 h
  obtain ⟨rfl, rfl, z1', z2'⟩ := rep_Glance.1 h'
  have hsz : Mk.sz x = x.1.size + (0 + (x.2.2.size)) := rfl
  refine ACalls.enterQ (rs := [.tmp 4]) Tryd.func160 rfl (by kernel_rfl) rfl ?_
  simp (maxSteps := 2000000) (disch := first | omega | (simp only [AH.size_new, AH.size_put] <;> omega) | fail) only [amR Tryd.prog ro X, amS, seval, reduceCtorEq, ty4, ty9, ty153]
  refine CondB.split (fun h => ?_) (fun h => ?_)
  · have hc : ¬ x.1 = y.1 := by simpa using h
    simp (maxSteps := 2000000) (disch := first | omega | (simp only [AH.size_new, AH.size_put] <;> omega) | fail) only [amR Tryd.prog ro X, amS, seval, reduceCtorEq, ty4, ty9, ty153]
    exact ⟨by rw [decide_eq_false (fun e => hc (by rw [e]))], by ((repeat' (first | exact Ext.refl _ | assumption | refine Ext.trans ?_ (Ext.new _ _) | refine Ext.put ?_ ?_ _ | refine Ext.trans ?_ (by assumption))) <;> (first | omega | (simp only [AH.size_new, AH.size_put] <;> omega)))⟩
  have c1 : x.1 = y.1 := by simpa using h
  simp (maxSteps := 2000000) (disch := first | omega | (simp only [AH.size_new, AH.size_put] <;> omega) | fail) only [amR Tryd.prog ro X, amS, seval, reduceCtorEq, ty4, ty9, ty153]
  refine CondB.split (fun h => ?_) (fun h => ?_)
  · have hc : ¬ x.2.1 = y.2.1 := by simpa using h
    simp (maxSteps := 2000000) (disch := first | omega | (simp only [AH.size_new, AH.size_put] <;> omega) | fail) only [amR Tryd.prog ro X, amS, seval, reduceCtorEq, ty4, ty9, ty153]
    exact ⟨by rw [decide_eq_false (fun e => hc (by rw [e]))], by ((repeat' (first | exact Ext.refl _ | assumption | refine Ext.trans ?_ (Ext.new _ _) | refine Ext.put ?_ ?_ _ | refine Ext.trans ?_ (by assumption))) <;> (first | omega | (simp only [AH.size_new, AH.size_put] <;> omega)))⟩
  have c2 : x.2.1 = y.2.1 := by simpa using h
  simp (maxSteps := 2000000) (disch := first | omega | (simp only [AH.size_new, AH.size_put] <;> omega) | fail) only [amR Tryd.prog ro X, amS, seval, reduceCtorEq, ty4, ty9, ty153]
  refine CondB.split (fun h => ?_) (fun h => ?_)
  · have hc : ¬ x.2.2 = y.2.2 := by simpa using h
    simp (maxSteps := 2000000) (disch := first | omega | (simp only [AH.size_new, AH.size_put] <;> omega) | fail) only [amR Tryd.prog ro X, amS, seval, reduceCtorEq, ty4, ty9, ty153]
    exact ⟨by rw [decide_eq_false (fun e => hc (by rw [e]))], by ((repeat' (first | exact Ext.refl _ | assumption | refine Ext.trans ?_ (Ext.new _ _) | refine Ext.put ?_ ?_ _ | refine Ext.trans ?_ (by assumption))) <;> (first | omega | (simp only [AH.size_new, AH.size_put] <;> omega)))⟩
  have c3 : x.2.2 = y.2.2 := by simpa using h
  simp (maxSteps := 2000000) (disch := first | omega | (simp only [AH.size_new, AH.size_put] <;> omega) | fail) only [amR Tryd.prog ro X, amS, seval, reduceCtorEq, ty4, ty9, ty153]
  exact ⟨by rw [decide_eq_true (Prod.ext c1 (Prod.ext c2 (c3)))], by ((repeat' (first | exact Ext.refl _ | assumption | refine Ext.trans ?_ (Ext.new _ _) | refine Ext.put ?_ ?_ _ | refine Ext.trans ?_ (by assumption))) <;> (first | omega | (simp only [AH.size_new, AH.size_put] <;> omega)))⟩
theorem eqL_Glance (A : AH) (hro : ro ≤ A.size) (s t : Sl) (l k : List TGlance) (F G : List Nat) (hs : SlR A s l F) (ht : SlR A t k G) (hz : szL Mk.sz l < 4294967296) :
    ACalls Tryd.prog ro X 105 [s.v, t.v] A (fun r A' => r = .ret (.bool (decide (l = k))) ∧ Ext A A') := by
  have hl := szL_length Mk.sz l
  have hw : Dat.w TGlance = 3 := rfl
  refine ACalls.enterQ (rs := [.tmp 4]) Tryd.func105 rfl (by kernel_rfl) rfl ?_
  simp (maxSteps := 2000000) (disch := first | omega | (simp only [AH.size_new, AH.size_put] <;> omega) | fail) only [amR Tryd.prog ro X, amS, seval, reduceCtorEq, ty3, ty4, ty9, ty67, ty153, hs.len, ht.len]
  refine CondB.split (fun h => ?_) (fun h => ?_)
  · simp (maxSteps := 2000000) (disch := first | omega | (simp only [AH.size_new, AH.size_put] <;> omega) | fail) only [amR Tryd.prog ro X, amS, seval, reduceCtorEq, ty3, ty4, ty9, ty67, ty153]
    have : l ≠ k := fun e => by simp [e] at h
    simp [this, Ext.refl]
  · simp (maxSteps := 2000000) (disch := first | omega | (simp only [AH.size_new, AH.size_put] <;> omega) | fail) only [amR Tryd.prog ro X, amS, seval, reduceCtorEq, ty3, ty4, ty9, ty67, ty153]
    have hlk : l.length = k.length := by simp at h; omega
    refine Wp.loopC (fun n e A' => Ext A A' ∧ e 0 = s.v ∧ e 1 = t.v ∧ ∃ i : Nat, i ≤ l.length ∧ n = l.length - i ∧ e 5 = .int .i64 i ∧ l.take i = k.take i) (l.length - 0) ?_ ?_
    · simp (maxSteps := 2000000) (disch := first | omega | (simp only [AH.size_new, AH.size_put] <;> omega) | fail) only [amV, amH, amQ, amL, amN Tryd.prog, amS, seval, reduceCtorEq, ty3, ty4, ty9, ty67, ty153]
      exact ⟨Ext.refl A, 0, by simp, rfl, rfl, by simp⟩
    · rintro n e A' ⟨hE, h0, h1, i, hi, rfl, h5, heq⟩
      have v1 := hE.size
      simp (maxSteps := 2000000) (disch := first | omega | (simp only [AH.size_new, AH.size_put] <;> omega) | fail) only [amR Tryd.prog ro X, amS, seval, reduceCtorEq, ty3, ty4, ty9, ty67, ty153, h0, h1, h5, hs.len]
      refine CondB.split (fun h => ?_) (fun h => ?_)
      · simp (maxSteps := 2000000) (disch := first | omega | (simp only [AH.size_new, AH.size_put] <;> omega) | fail) only [amR Tryd.prog ro X, amS, seval, reduceCtorEq, ty3, ty4, ty9, ty67, ty153]
        have hil : i < l.length := by simp at h; omega
        obtain ⟨n1, b1, m1, i1, cs, Fi, c1, q1, _⟩ := (hs.ext hE).row hil
        obtain ⟨n2, b2, m2, i2, ds, Gi, c2, q2, _⟩ := (ht.ext hE).row (i := i) (by omega)
        rw [aRow_eq, hw] at c1 c2
        have hzi := szL_get Mk.sz l i hil
        refine Wp.runG [] (by kernel_rfl) (.inl (by kernel_rfl)) ?_
        simp (maxSteps := 2000000) (disch := first | omega | (simp only [AH.size_new, AH.size_put] <;> omega) | fail) only [amR Tryd.prog ro X, amS, seval, reduceCtorEq, ty3, ty4, ty9, ty67, ty153, h0, h1, h5, n1, n2, c1, c2]
        refine (eq_Glance _ (by omega) l[i] k[i] cs ds Fi Gi q1 q2 (by omega)).mono ?_
        rintro r A2 ⟨rfl, hE2⟩
        simp (maxSteps := 2000000) (disch := first | omega | (simp only [AH.size_new, AH.size_put] <;> omega) | fail) only [amR Tryd.prog ro X, amS, seval, reduceCtorEq, ty3, ty4, ty9, ty67, ty153]
        refine CondB.split (fun h => ?_) (fun h => ?_)
        · simp (maxSteps := 2000000) (disch := first | omega | (simp only [AH.size_new, AH.size_put] <;> omega) | fail) only [amR Tryd.prog ro X, amS, seval, reduceCtorEq, ty3, ty4, ty9, ty67, ty153]
          have : l ≠ k := by
            intro e
            subst e
            simp at h
          simp [this, hE.trans hE2]
        · simp (maxSteps := 2000000) (disch := first | omega | (simp only [AH.size_new, AH.size_put] <;> omega) | fail) only [amR Tryd.prog ro X, amS, seval, reduceCtorEq, ty3, ty4, ty9, ty67, ty153, h0, h1, h5]
          refine ⟨l.length - (i + 1), by omega, hE.trans hE2, i + 1, by omega, rfl, by simp, ?_⟩
          rw [List.take_succ_eq_append_getElem hil, List.take_succ_eq_append_getElem (by omega : i < k.length), heq]
          have : l[i] = k[i] := by simpa using h
          rw [this]
      · simp (maxSteps := 2000000) (disch := first | omega | (simp only [AH.size_new, AH.size_put] <;> omega) | fail) only [amR Tryd.prog ro X, amS, seval, reduceCtorEq, ty3, ty4, ty9, ty67, ty153]
        have : l = k := by
          have hi2 : i = l.length := by simp at h; omega
          subst hi2
          rw [List.take_length] at heq
          rw [hlk, List.take_length] at heq
          exact heq
        simp [this, hE]
theorem sz_Glance (A : AH) (hro : ro ≤ A.size) (x : TGlance) (cs : List Value) (F : List Nat) (h : Dat.rep A x cs F) (hn : Mk.bd x) (left : Int) (hz : 0 ≤ left ∧ left ≤ 2097152) :
    ACalls Tryd.prog ro X 186 [.agg cs.toArray, .int .i64 left] A (fun r A' => r = .ret (.int .i64 (szR left (Mk.sz x))) ∧ Ext A A') := by
  obtain ⟨rfl, rfl, z1, z2⟩ := rep_Glance.1 h
  have y1 := big_lt z1
  have y2 := big_lt z2
  have hsz : Mk.sz x = x.1.size + (0 + (x.2.2.size)) := rfl
  refine ACalls.enterQ (rs := [.tmp 4]) Tryd.func186 rfl (by kernel_rfl) rfl ?_
  simp (maxSteps := 2000000) (disch := first | omega | (simp only [AH.size_new, AH.size_put] <;> omega) | fail) only [amR Tryd.prog ro X, amS, seval, reduceCtorEq, ty3, ty4, ty9, ty234]
  refine CondB.split (fun h => ?_) (fun h => ?_)
  · have hc : left - (x.1.size : Nat) < 0 := by simpa using h
    simp (maxSteps := 2000000) (disch := first | omega | (simp only [AH.size_new, AH.size_put] <;> omega) | fail) only [amR Tryd.prog ro X, amS, seval, reduceCtorEq, ty3, ty4, ty9, ty234]
    exact ⟨(by rw [szR_neg (by omega : left - (Mk.sz x : Nat) < 0)]), by ((repeat' (first | exact Ext.refl _ | assumption | refine Ext.trans ?_ (Ext.new _ _) | refine Ext.put ?_ ?_ _ | refine Ext.trans ?_ (by assumption))) <;> (first | omega | (simp only [AH.size_new, AH.size_put] <;> omega)))⟩
  have c1 : ¬ (left - (x.1.size : Nat) < 0) := by simpa using h
  simp (maxSteps := 2000000) (disch := first | omega | (simp only [AH.size_new, AH.size_put] <;> omega) | fail) only [amR Tryd.prog ro X, amS, seval, reduceCtorEq, ty3, ty4, ty9, ty234]
  refine CondB.split (fun h => ?_) (fun h => ?_)
  · have hc : left - (x.1.size : Nat) - (x.2.2.size : Nat) < 0 := by simpa using h
    simp (maxSteps := 2000000) (disch := first | omega | (simp only [AH.size_new, AH.size_put] <;> omega) | fail) only [amR Tryd.prog ro X, amS, seval, reduceCtorEq, ty3, ty4, ty9, ty234]
    exact ⟨(by rw [szR_neg (by omega : left - (Mk.sz x : Nat) < 0)]), by ((repeat' (first | exact Ext.refl _ | assumption | refine Ext.trans ?_ (Ext.new _ _) | refine Ext.put ?_ ?_ _ | refine Ext.trans ?_ (by assumption))) <;> (first | omega | (simp only [AH.size_new, AH.size_put] <;> omega)))⟩
  have c2 : ¬ (left - (x.1.size : Nat) - (x.2.2.size : Nat) < 0) := by simpa using h
  simp (maxSteps := 2000000) (disch := first | omega | (simp only [AH.size_new, AH.size_put] <;> omega) | fail) only [amR Tryd.prog ro X, amS, seval, reduceCtorEq, ty3, ty4, ty9, ty234]
  exact ⟨by rw [szR_pos (by omega : ¬ left - (Mk.sz x : Nat) < 0)]; congr 2 <;> omega, by ((repeat' (first | exact Ext.refl _ | assumption | refine Ext.trans ?_ (Ext.new _ _) | refine Ext.put ?_ ?_ _ | refine Ext.trans ?_ (by assumption))) <;> (first | omega | (simp only [AH.size_new, AH.size_put] <;> omega)))⟩
theorem szL_Glance (A : AH) (hro : ro ≤ A.size) (s : Sl) (l : List TGlance) (F : List Nat) (hs : SlR A s l F) (hn : Mk.bd l) (left : Int) (hz : 0 ≤ left ∧ left ≤ 2097152) :
    ACalls Tryd.prog ro X 178 [s.v, .int .i64 left] A (fun r A' => r = .ret (.int .i64 (szR left (szL Mk.sz l))) ∧ Ext A A') := by
  have hl := hn.1
  have hw : Dat.w TGlance = 3 := rfl
  refine ACalls.enterQ (rs := [.tmp 4]) Tryd.func178 rfl (by kernel_rfl) rfl ?_
  simp (maxSteps := 2000000) (disch := first | omega | (simp only [AH.size_new, AH.size_put] <;> omega) | fail) only [amR Tryd.prog ro X, amS, seval, reduceCtorEq, ty3, ty4, ty9, ty206, ty234, hs.len]
  refine CondB.split (fun h => ?_) (fun h => ?_)
  · simp (maxSteps := 2000000) (disch := first | omega | (simp only [AH.size_new, AH.size_put] <;> omega) | fail) only [amR Tryd.prog ro X, amS, seval, reduceCtorEq, ty3, ty4, ty9, ty206, ty234]
    have h2 : left - l.length < 0 := by simpa using h
    have := szL_length Mk.sz l
    exact ⟨by rw [szR_neg (by omega)], Ext.refl A⟩
  · simp (maxSteps := 2000000) (disch := first | omega | (simp only [AH.size_new, AH.size_put] <;> omega) | fail) only [amR Tryd.prog ro X, amS, seval, reduceCtorEq, ty3, ty4, ty9, ty206, ty234]
    refine Wp.loopC (fun n e A' => Ext A A' ∧ e 0 = s.v ∧ ∃ i : Nat, i ≤ l.length ∧ n = l.length - i ∧ e 5 = .int .i64 i ∧ e 1 = .int .i64 (left - szL Mk.sz (l.take i) + i - l.length) ∧ 0 ≤ left - szL Mk.sz (l.take i) + i - l.length) (l.length - 0) ?_ ?_
    · simp (maxSteps := 2000000) (disch := first | omega | (simp only [AH.size_new, AH.size_put] <;> omega) | fail) only [amV, amH, amQ, amL, amN Tryd.prog, amS, seval, reduceCtorEq, ty3, ty4, ty9, ty206, ty234]
      refine ⟨Ext.refl A, 0, by omega, rfl, rfl, ?_⟩
      have : 0 ≤ left - l.length := by simpa using h
      simp only [List.take_zero, szL_nil]
      exact ⟨by congr 1 <;> omega, by omega⟩
    · rintro n e A' ⟨hE, h0, i, hi, rfl, h5, h1, hle⟩
      have v1 := hE.size
      simp (maxSteps := 2000000) (disch := first | omega | (simp only [AH.size_new, AH.size_put] <;> omega) | fail) only [amR Tryd.prog ro X, amS, seval, reduceCtorEq, ty3, ty4, ty9, ty206, ty234, h0, h5, hs.len]
      refine CondB.split (fun h => ?_) (fun h => ?_)
      · have hil : i < l.length := by simp at h; omega
        obtain ⟨n1, b1, m1, i1, cs, Fi, c1, q1, _⟩ := (hs.ext hE).row hil
        rw [aRow_eq, hw] at c1
        have hst := szL_take_succ Mk.sz l i hil
        have hge := szL_take_le Mk.sz l (i + 1)
        have hge0 := szL_take_le Mk.sz l i
        have hti := szL_length Mk.sz (l.take i)
        rw [List.length_take, Nat.min_eq_left hi] at hti
        simp (maxSteps := 2000000) (disch := first | omega | (simp only [AH.size_new, AH.size_put] <;> omega) | fail) only [amR Tryd.prog ro X, amS, seval, reduceCtorEq, ty3, ty4, ty9, ty206, ty234, h0, h1, h5, n1, c1]
        refine (sz_Glance _ (by omega) l[i] cs Fi q1 (hn.2 _ (List.getElem_mem hil)) _ ⟨hle, by omega⟩).mono ?_
        rintro r A2 ⟨rfl, hE2⟩
        by_cases hc : left - szL Mk.sz (l.take i) + i - l.length - (Mk.sz l[i] : Nat) < 0
        · rw [szR_neg hc]
          simp (maxSteps := 2000000) (disch := first | omega | (simp only [AH.size_new, AH.size_put] <;> omega) | fail) only [amR Tryd.prog ro X, amS, seval, reduceCtorEq, ty3, ty4, ty9, ty206, ty234]
          exact ⟨by rw [szR_neg (by omega)], hE.trans hE2⟩
        · rw [szR_pos hc]
          simp (maxSteps := 2000000) (disch := first | omega | (simp only [AH.size_new, AH.size_put] <;> omega) | fail) only [amR Tryd.prog ro X, amS, seval, reduceCtorEq, ty3, ty4, ty9, ty206, ty234, h0, h5, hc]
          exact ⟨l.length - (i + 1), by omega, hE.trans hE2, i + 1, by omega, rfl, rfl, by congr 1 <;> omega, by omega⟩
      · have hil : i = l.length := by simp at h; omega
        subst hil
        rw [List.take_length] at h1 hle
        simp (maxSteps := 2000000) (disch := first | omega | (simp only [AH.size_new, AH.size_put] <;> omega) | fail) only [amR Tryd.prog ro X, amS, seval, reduceCtorEq, ty3, ty4, ty9, ty206, ty234, h1]
        exact ⟨by rw [szR_pos (by omega)]; congr 2; omega, hE⟩
theorem to_Record (A : AH) (hro : ro ≤ A.size) (x : TRecord) (cs : List Value) (F : List Nat) (h : Dat.rep A x cs F) (hz : Mk.sz x < 4294967296) :
    ACalls Tryd.prog ro X 157 [.agg cs.toArray] A (fun r A' => ∃ cs' F', r = .ret (.agg cs'.toArray) ∧ Dat.rep A' x cs' F' ∧ Fresh A F' A' ∧ Ext A A') := by
  obtain ⟨s1, s2, G1, G2, rfl, rfl, h1, h2, z1⟩ := rep_Record.1 h
  have y1 := big_lt z1
  have hsz : Mk.sz x = (szL Mk.sz x.1) + (szL Mk.sz x.2.1 + (x.2.2.size)) := rfl
  refine ACalls.enterQ (rs := [.cell 2 69]) Tryd.func157 rfl (by kernel_rfl) rfl ?_
  simp (maxSteps := 2000000) (disch := first | omega | (simp only [AH.size_new, AH.size_put] <;> omega) | fail) only [amR Tryd.prog ro X, amS, seval, reduceCtorEq, ty9, ty22, ty24, ty27, ty29, ty67, ty69, ty153, ty206, ty208, ty234]
  refine (to_Program _ (by first | omega | (simp only [AH.size_new, AH.size_put] <;> omega)) x.1 _ _ (rep_Program.2 ⟨s1, _, rfl, rfl, h1.ext (by ((repeat' (first | exact Ext.refl _ | assumption | refine Ext.trans ?_ (Ext.new _ _) | refine Ext.put ?_ ?_ _ | refine Ext.trans ?_ (by assumption))) <;> (first | omega | (simp only [AH.size_new, AH.size_put] <;> omega))))⟩) (by show szL Mk.sz _ < _; omega)).mono ?_
  rintro r B1 ⟨c1, H1, rfl, q1', f1, hE1⟩
  obtain ⟨t1, _, rfl, rfl, q1⟩ := rep_Program.1 q1'
  have v1 := hE1.size
  try simp only [AH.size_new, AH.size_put] at v1
  simp (maxSteps := 2000000) (disch := first | omega | (simp only [AH.size_new, AH.size_put] <;> omega) | fail) only [amR Tryd.prog ro X, amS, seval, reduceCtorEq, ty9, ty22, ty24, ty27, ty29, ty67, ty69, ty153, ty206, ty208, ty234, hE1.get]
  refine (toL_Glance _ (by first | omega | (simp only [AH.size_new, AH.size_put] <;> omega)) s2 _ _ (h2.ext (by ((repeat' (first | exact Ext.refl _ | assumption | refine Ext.trans ?_ (Ext.new _ _) | refine Ext.put ?_ ?_ _ | refine Ext.trans ?_ (by assumption))) <;> (first | omega | (simp only [AH.size_new, AH.size_put] <;> omega))))) (by omega)).mono ?_
  rintro r B2 ⟨t2, H2, rfl, q2, f2, hE2⟩
  have v2 := hE2.size
  try simp only [AH.size_new, AH.size_put] at v2
  simp (maxSteps := 2000000) (disch := first | omega | (simp only [AH.size_new, AH.size_put] <;> omega) | fail) only [amR Tryd.prog ro X, amS, seval, reduceCtorEq, ty9, ty22, ty24, ty27, ty29, ty67, ty69, ty153, ty206, ty208, ty234, hE1.get, hE2.get]
  exact ⟨_, _, rfl, rep_Record.2 ⟨t1, t2, _, _, rfl, rfl, q1.low f1.lo (by ((repeat' (first | exact Low.refl _ _ | assumption | refine Low.new ?_ _ | refine Low.put ?_ ?_ _ | refine Low.trans ?_ (Ext.low (by assumption) _))) <;> (first | omega | (simp only [AH.size_new, AH.size_put] <;> omega)))), q2.low f2.lo (by ((repeat' (first | exact Low.refl _ _ | assumption | refine Low.new ?_ _ | refine Low.put ?_ ?_ _ | refine Low.trans ?_ (Ext.low (by assumption) _))) <;> (first | omega | (simp only [AH.size_new, AH.size_put] <;> omega)))), z1⟩, (f1.mono (by first | omega | (simp only [AH.size_new, AH.size_put] <;> omega)) (Nat.le_refl _)).append (f2.mono (by first | omega | (simp only [AH.size_new, AH.size_put] <;> omega)) (by first | omega | (simp only [AH.size_new, AH.size_put] <;> omega))) (by first | omega | (simp only [AH.size_new, AH.size_put] <;> omega)) (by first | omega | (simp only [AH.size_new, AH.size_put] <;> omega)), by ((repeat' (first | exact Ext.refl _ | assumption | refine Ext.trans ?_ (Ext.new _ _) | refine Ext.put ?_ ?_ _ | refine Ext.trans ?_ (by assumption))) <;> (first | omega | (simp only [AH.size_new, AH.size_put] <;> omega)))⟩
theorem toL_Record (A : AH) (hro : ro ≤ A.size) (s : Sl) (l : List TRecord) (F : List Nat) (hs : SlR A s l F) (hz : szL Mk.sz l < 4294967296) :
    ACalls Tryd.prog ro X 91 [s.v] A (fun r A' => ∃ t G, r = .ret t.v ∧ SlR A' t l G ∧ Fresh A G A' ∧ Ext A A') := by
  have hl := szL_length Mk.sz l
  refine ACalls.enterQ (rs := [.tmp 2]) Tryd.func91 rfl (by kernel_rfl) rfl ?_
  simp (maxSteps := 2000000) (disch := first | omega | (simp only [AH.size_new, AH.size_put] <;> omega) | fail) only [amR Tryd.prog ro X, amS, seval, reduceCtorEq, ty3, ty9, ty24, ty29, ty48, ty53, ty67, ty69, ty206, ty208, hs.len]
  refine Wp.loopC (fun n e A' => Ext A A' ∧ A.size < A'.size ∧ e 0 = s.v ∧ e 3 = (Sl.mk false A.size 0 l.length l.length).v ∧ ∃ i : Nat, i ≤ l.length ∧ n = l.length - i ∧ e 4 = .int .i64 i ∧ ∃ G, Part A' A.size l.length (l.take i) G ∧ Fresh (A.new .dead) G A') (l.length - 0) ?_ ?_
  · simp (maxSteps := 2000000) (disch := first | omega | (simp only [AH.size_new, AH.size_put] <;> omega) | fail) only [amV, amH, amQ, amL, amN Tryd.prog, amS, seval, reduceCtorEq, ty3, ty9, ty24, ty29, ty48, ty53, ty67, ty69, ty206, ty208]
    refine ⟨Ext.new A _, by omega, 0, by omega, rfl, rfl, [], ?_, Fresh.nil _ _⟩
    rw [List.take_zero]
    exact Part.start (by simp [AH.size_new]) (AH.get_new_self _ _) (fill_flat _ _ _ rfl)
  · rintro n e A' ⟨hE, hlt, h0, h3, i, hi, rfl, h4, G, hp, hf⟩
    have hs' := hs.ext hE
    simp (maxSteps := 2000000) (disch := first | omega | (simp only [AH.size_new, AH.size_put] <;> omega) | fail) only [amR Tryd.prog ro X, amS, seval, reduceCtorEq, ty3, ty9, ty24, ty29, ty48, ty53, ty67, ty69, ty206, ty208, h0, h3, h4, hs.len]
    refine CondB.split (fun h => ?_) (fun h => ?_)
    · have hil : i < l.length := by simp at h; omega
      obtain ⟨n1, b1, m1, i1, cs, Fi, c1, q1, _⟩ := hs'.row hil
      rw [aRow_eq] at c1
      have hw : Dat.w TRecord = 3 := rfl
      rw [hw] at c1
      have hzi := szL_get Mk.sz l i hil
      simp (maxSteps := 2000000) (disch := first | omega | (simp only [AH.size_new, AH.size_put] <;> omega) | fail) only [amR Tryd.prog ro X, amS, seval, reduceCtorEq, ty3, ty9, ty24, ty29, ty48, ty53, ty67, ty69, ty206, ty208, h0, h3, h4, n1, c1]
      refine (to_Record _ (by omega) l[i] cs Fi q1 (by omega)).mono ?_
      rintro r A2 ⟨cs', F', rfl, q2, f2, hE2⟩
      have v2 := hE2.size
      have hp2 := hp.ext hE2
      have hl2 : cs'.length = 3 := Dat.len q2
      obtain ⟨hlt2, ⟨c, g1, g2, g3⟩, hle⟩ := id hp2
      have hwl : (i + 1) * 3 ≤ l.length * 3 := Nat.mul_le_mul_right _ hil
      rw [hw] at g1 g2
      simp (maxSteps := 2000000) (disch := first | omega | (simp only [AH.size_new, AH.size_put] <;> omega) | fail) only [amR Tryd.prog ro X, amS, seval, reduceCtorEq, ty3, ty9, ty24, ty29, ty48, ty53, ty67, ty69, ty206, ty208, h0, h3, h4, g1, hl2]
      refine ⟨l.length - (i + 1), by omega, (hE.trans hE2).put (Nat.le_refl _) _, by omega, i + 1, by omega, rfl, by simp, G ++ F', ?_, (hf.mono (Nat.le_refl _) (Nat.le_refl _)).append (f2.mono (Nat.le_refl _) (Nat.le_refl _)) (by simp [AH.size_new]; omega) v2⟩
      have := hp2.store (fun hm => by have := hf.lo _ hm; simp [AH.size_new] at this; omega) q2 (fun hm => by have := f2.lo _ hm; omega) (by simp; omega) g1
      rw [List.take_succ_eq_append_getElem hil]
      rw [List.length_take, Nat.min_eq_left hi, hw] at this
      exact this
    · have hil : i = l.length := by simp at h; omega
      subst hil
      simp (maxSteps := 2000000) (disch := first | omega | (simp only [AH.size_new, AH.size_put] <;> omega) | fail) only [amR Tryd.prog ro X, amS, seval, reduceCtorEq, ty3, ty9, ty24, ty29, ty48, ty53, ty67, ty69, ty206, ty208, h3]
      rw [List.take_length] at hp
      exact ⟨_, _, rfl, hp.done rfl (by unfold BIG; omega), Fresh.cons (Nat.le_refl _) (by simp [AH.size_new]) hf (by simp only [AH.size_new]; omega) (by simp only [AH.size_new]; omega), hE⟩
theorem eq_Record (A : AH) (hro : ro ≤ A.size) (x y : TRecord) (cs ds : List Value) (F F' : List Nat) (h : Dat.rep A x cs F) (h' : Dat.rep A y ds F') (hz : Mk.sz x < 4294967296) :
    ACalls Tryd.prog ro X 39 [.agg cs.toArray, .agg ds.toArray] A (fun r A' => r = .ret (.bool (decide (x = y))) ∧ Ext A A') := by
  obtain ⟨s1, s2, G1, G2, rfl, rfl, h1, h2, z1⟩ := rep_Record.1 h
  obtain ⟨s1', s2', G1', G2', rfl, rfl, h1', h2', z1'⟩ := rep_Record.1 h'
  have hsz : Mk.sz x = (szL Mk.sz x.1) + (szL Mk.sz x.2.1 + (x.2.2.size)) := rfl
  refine ACalls.enterQ (rs := [.tmp 4]) Tryd.func39 rfl (by kernel_rfl) rfl ?_
  simp (maxSteps := 2000000) (disch := first | omega | (simp only [AH.size_new, AH.size_put] <;> omega) | fail) only [amR Tryd.prog ro X, amS, seval, reduceCtorEq, ty4, ty9, ty27, ty29, ty67, ty69, ty153]
  refine (eq_Program _ (by first | omega | (simp only [AH.size_new, AH.size_put] <;> omega)) x.1 y.1 _ _ _ _ (rep_Program.2 ⟨s1, _, rfl, rfl, h1.ext (by ((repeat' (first | exact Ext.refl _ | assumption | refine Ext.trans ?_ (Ext.new _ _) | refine Ext.put ?_ ?_ _ | refine Ext.trans ?_ (by assumption))) <;> (first | omega | (simp only [AH.size_new, AH.size_put] <;> omega))))⟩) (rep_Program.2 ⟨s1', _, rfl, rfl, h1'.ext (by ((repeat' (first | exact Ext.refl _ | assumption | refine Ext.trans ?_ (Ext.new _ _) | refine Ext.put ?_ ?_ _ | refine Ext.trans ?_ (by assumption))) <;> (first | omega | (simp only [AH.size_new, AH.size_put] <;> omega))))⟩) (by show szL Mk.sz x.1 < _; omega)).mono ?_
  rintro r B1 ⟨rfl, hE1⟩
  have v1 := hE1.size
  try simp only [AH.size_new, AH.size_put] at v1
  simp (maxSteps := 2000000) (disch := first | omega | (simp only [AH.size_new, AH.size_put] <;> omega) | fail) only [amR Tryd.prog ro X, amS, seval, reduceCtorEq, ty4, ty9, ty27, ty29, ty67, ty69, ty153, hE1.get]
  refine CondB.split (fun h => ?_) (fun h => ?_)
  · have hc : ¬ x.1 = y.1 := by simpa using h
    simp (maxSteps := 2000000) (disch := first | omega | (simp only [AH.size_new, AH.size_put] <;> omega) | fail) only [amR Tryd.prog ro X, amS, seval, reduceCtorEq, ty4, ty9, ty27, ty29, ty67, ty69, ty153, hE1.get]
    exact ⟨by rw [decide_eq_false (fun e => hc (by rw [e]))], by ((repeat' (first | exact Ext.refl _ | assumption | refine Ext.trans ?_ (Ext.new _ _) | refine Ext.put ?_ ?_ _ | refine Ext.trans ?_ (by assumption))) <;> (first | omega | (simp only [AH.size_new, AH.size_put] <;> omega)))⟩
  have c1 : x.1 = y.1 := by simpa using h
  simp (maxSteps := 2000000) (disch := first | omega | (simp only [AH.size_new, AH.size_put] <;> omega) | fail) only [amR Tryd.prog ro X, amS, seval, reduceCtorEq, ty4, ty9, ty27, ty29, ty67, ty69, ty153, hE1.get]
  refine (eqL_Glance _ (by first | omega | (simp only [AH.size_new, AH.size_put] <;> omega)) s2 s2' _ _ _ _ (h2.ext (by ((repeat' (first | exact Ext.refl _ | assumption | refine Ext.trans ?_ (Ext.new _ _) | refine Ext.put ?_ ?_ _ | refine Ext.trans ?_ (by assumption))) <;> (first | omega | (simp only [AH.size_new, AH.size_put] <;> omega))))) (h2'.ext (by ((repeat' (first | exact Ext.refl _ | assumption | refine Ext.trans ?_ (Ext.new _ _) | refine Ext.put ?_ ?_ _ | refine Ext.trans ?_ (by assumption))) <;> (first | omega | (simp only [AH.size_new, AH.size_put] <;> omega))))) (by omega)).mono ?_
  rintro r B2 ⟨rfl, hE2⟩
  have v2 := hE2.size
  try simp only [AH.size_new, AH.size_put] at v2
  simp (maxSteps := 2000000) (disch := first | omega | (simp only [AH.size_new, AH.size_put] <;> omega) | fail) only [amR Tryd.prog ro X, amS, seval, reduceCtorEq, ty4, ty9, ty27, ty29, ty67, ty69, ty153, hE1.get, hE2.get]
  refine CondB.split (fun h => ?_) (fun h => ?_)
  · have hc : ¬ x.2.1 = y.2.1 := by simpa using h
    simp (maxSteps := 2000000) (disch := first | omega | (simp only [AH.size_new, AH.size_put] <;> omega) | fail) only [amR Tryd.prog ro X, amS, seval, reduceCtorEq, ty4, ty9, ty27, ty29, ty67, ty69, ty153, hE1.get, hE2.get]
    exact ⟨by rw [decide_eq_false (fun e => hc (by rw [e]))], by ((repeat' (first | exact Ext.refl _ | assumption | refine Ext.trans ?_ (Ext.new _ _) | refine Ext.put ?_ ?_ _ | refine Ext.trans ?_ (by assumption))) <;> (first | omega | (simp only [AH.size_new, AH.size_put] <;> omega)))⟩
  have c2 : x.2.1 = y.2.1 := by simpa using h
  simp (maxSteps := 2000000) (disch := first | omega | (simp only [AH.size_new, AH.size_put] <;> omega) | fail) only [amR Tryd.prog ro X, amS, seval, reduceCtorEq, ty4, ty9, ty27, ty29, ty67, ty69, ty153, hE1.get, hE2.get]
  refine CondB.split (fun h => ?_) (fun h => ?_)
  · have hc : ¬ x.2.2 = y.2.2 := by simpa using h
    simp (maxSteps := 2000000) (disch := first | omega | (simp only [AH.size_new, AH.size_put] <;> omega) | fail) only [amR Tryd.prog ro X, amS, seval, reduceCtorEq, ty4, ty9, ty27, ty29, ty67, ty69, ty153, hE1.get, hE2.get]
    exact ⟨by rw [decide_eq_false (fun e => hc (by rw [e]))], by ((repeat' (first | exact Ext.refl _ | assumption | refine Ext.trans ?_ (Ext.new _ _) | refine Ext.put ?_ ?_ _ | refine Ext.trans ?_ (by assumption))) <;> (first | omega | (simp only [AH.size_new, AH.size_put] <;> omega)))⟩
  have c3 : x.2.2 = y.2.2 := by simpa using h
  simp (maxSteps := 2000000) (disch := first | omega | (simp only [AH.size_new, AH.size_put] <;> omega) | fail) only [amR Tryd.prog ro X, amS, seval, reduceCtorEq, ty4, ty9, ty27, ty29, ty67, ty69, ty153, hE1.get, hE2.get]
  exact ⟨by rw [decide_eq_true (Prod.ext c1 (Prod.ext c2 (c3)))], by ((repeat' (first | exact Ext.refl _ | assumption | refine Ext.trans ?_ (Ext.new _ _) | refine Ext.put ?_ ?_ _ | refine Ext.trans ?_ (by assumption))) <;> (first | omega | (simp only [AH.size_new, AH.size_put] <;> omega)))⟩
theorem eqL_Record (A : AH) (hro : ro ≤ A.size) (s t : Sl) (l k : List TRecord) (F G : List Nat) (hs : SlR A s l F) (ht : SlR A t k G) (hz : szL Mk.sz l < 4294967296) :
    ACalls Tryd.prog ro X 96 [s.v, t.v] A (fun r A' => r = .ret (.bool (decide (l = k))) ∧ Ext A A') := by
  have hl := szL_length Mk.sz l
  have hw : Dat.w TRecord = 3 := rfl
  refine ACalls.enterQ (rs := [.tmp 4]) Tryd.func96 rfl (by kernel_rfl) rfl ?_
  simp (maxSteps := 2000000) (disch := first | omega | (simp only [AH.size_new, AH.size_put] <;> omega) | fail) only [amR Tryd.prog ro X, amS, seval, reduceCtorEq, ty3, ty4, ty9, ty29, ty53, ty67, ty69, hs.len, ht.len]
  refine CondB.split (fun h => ?_) (fun h => ?_)
  · simp (maxSteps := 2000000) (disch := first | omega | (simp only [AH.size_new, AH.size_put] <;> omega) | fail) only [amR Tryd.prog ro X, amS, seval, reduceCtorEq, ty3, ty4, ty9, ty29, ty53, ty67, ty69]
    have : l ≠ k := fun e => by simp [e] at h
    simp [this, Ext.refl]
  · simp (maxSteps := 2000000) (disch := first | omega | (simp only [AH.size_new, AH.size_put] <;> omega) | fail) only [amR Tryd.prog ro X, amS, seval, reduceCtorEq, ty3, ty4, ty9, ty29, ty53, ty67, ty69]
    have hlk : l.length = k.length := by simp at h; omega
    refine Wp.loopC (fun n e A' => Ext A A' ∧ e 0 = s.v ∧ e 1 = t.v ∧ ∃ i : Nat, i ≤ l.length ∧ n = l.length - i ∧ e 5 = .int .i64 i ∧ l.take i = k.take i) (l.length - 0) ?_ ?_
    · simp (maxSteps := 2000000) (disch := first | omega | (simp only [AH.size_new, AH.size_put] <;> omega) | fail) only [amV, amH, amQ, amL, amN Tryd.prog, amS, seval, reduceCtorEq, ty3, ty4, ty9, ty29, ty53, ty67, ty69]
      exact ⟨Ext.refl A, 0, by simp, rfl, rfl, by simp⟩
    · rintro n e A' ⟨hE, h0, h1, i, hi, rfl, h5, heq⟩
      have v1 := hE.size
      simp (maxSteps := 2000000) (disch := first | omega | (simp only [AH.size_new, AH.size_put] <;> omega) | fail) only [amR Tryd.prog ro X, amS, seval, reduceCtorEq, ty3, ty4, ty9, ty29, ty53, ty67, ty69, h0, h1, h5, hs.len]
      refine CondB.split (fun h => ?_) (fun h => ?_)
      · simp (maxSteps := 2000000) (disch := first | omega | (simp only [AH.size_new, AH.size_put] <;> omega) | fail) only [amR Tryd.prog ro X, amS, seval, reduceCtorEq, ty3, ty4, ty9, ty29, ty53, ty67, ty69]
        have hil : i < l.length := by simp at h; omega
        obtain ⟨n1, b1, m1, i1, cs, Fi, c1, q1, _⟩ := (hs.ext hE).row hil
        obtain ⟨n2, b2, m2, i2, ds, Gi, c2, q2, _⟩ := (ht.ext hE).row (i := i) (by omega)
        rw [aRow_eq, hw] at c1 c2
        have hzi := szL_get Mk.sz l i hil
        refine Wp.runG [] (by kernel_rfl) (.inl (by kernel_rfl)) ?_
        simp (maxSteps := 2000000) (disch := first | omega | (simp only [AH.size_new, AH.size_put] <;> omega) | fail) only [amR Tryd.prog ro X, amS, seval, reduceCtorEq, ty3, ty4, ty9, ty29, ty53, ty67, ty69, h0, h1, h5, n1, n2, c1, c2]
        refine (eq_Record _ (by omega) l[i] k[i] cs ds Fi Gi q1 q2 (by omega)).mono ?_
        rintro r A2 ⟨rfl, hE2⟩
        simp (maxSteps := 2000000) (disch := first | omega | (simp only [AH.size_new, AH.size_put] <;> omega) | fail) only [amR Tryd.prog ro X, amS, seval, reduceCtorEq, ty3, ty4, ty9, ty29, ty53, ty67, ty69]
        refine CondB.split (fun h => ?_) (fun h => ?_)
        · simp (maxSteps := 2000000) (disch := first | omega | (simp only [AH.size_new, AH.size_put] <;> omega) | fail) only [amR Tryd.prog ro X, amS, seval, reduceCtorEq, ty3, ty4, ty9, ty29, ty53, ty67, ty69]
          have : l ≠ k := by
            intro e
            subst e
            simp at h
          simp [this, hE.trans hE2]
        · simp (maxSteps := 2000000) (disch := first | omega | (simp only [AH.size_new, AH.size_put] <;> omega) | fail) only [amR Tryd.prog ro X, amS, seval, reduceCtorEq, ty3, ty4, ty9, ty29, ty53, ty67, ty69, h0, h1, h5]
          refine ⟨l.length - (i + 1), by omega, hE.trans hE2, i + 1, by omega, rfl, by simp, ?_⟩
          rw [List.take_succ_eq_append_getElem hil, List.take_succ_eq_append_getElem (by omega : i < k.length), heq]
          have : l[i] = k[i] := by simpa using h
          rw [this]
      · simp (maxSteps := 2000000) (disch := first | omega | (simp only [AH.size_new, AH.size_put] <;> omega) | fail) only [amR Tryd.prog ro X, amS, seval, reduceCtorEq, ty3, ty4, ty9, ty29, ty53, ty67, ty69]
        have : l = k := by
          have hi2 : i = l.length := by simp at h; omega
          subst hi2
          rw [List.take_length] at heq
          rw [hlk, List.take_length] at heq
          exact heq
        simp [this, hE]
theorem sz_Record (A : AH) (hro : ro ≤ A.size) (x : TRecord) (cs : List Value) (F : List Nat) (h : Dat.rep A x cs F) (hn : Mk.bd x) (left : Int) (hz : 0 ≤ left ∧ left ≤ 2097152) :
    ACalls Tryd.prog ro X 155 [.agg cs.toArray, .int .i64 left] A (fun r A' => r = .ret (.int .i64 (szR left (Mk.sz x))) ∧ Ext A A') := by
  obtain ⟨s1, s2, G1, G2, rfl, rfl, h1, h2, z1⟩ := rep_Record.1 h
  have y1 := big_lt z1
  have hsz : Mk.sz x = (szL Mk.sz x.1) + (szL Mk.sz x.2.1 + (x.2.2.size)) := rfl
  refine ACalls.enterQ (rs := [.tmp 4]) Tryd.func155 rfl (by kernel_rfl) rfl ?_
  simp (maxSteps := 2000000) (disch := first | omega | (simp only [AH.size_new, AH.size_put] <;> omega) | fail) only [amR Tryd.prog ro X, amS, seval, reduceCtorEq, ty3, ty9, ty22, ty24, ty206, ty208, ty234]
  refine (sz_Program _ (by first | omega | (simp only [AH.size_new, AH.size_put] <;> omega)) x.1 _ _ (rep_Program.2 ⟨s1, _, rfl, rfl, h1.ext (by ((repeat' (first | exact Ext.refl _ | assumption | refine Ext.trans ?_ (Ext.new _ _) | refine Ext.put ?_ ?_ _ | refine Ext.trans ?_ (by assumption))) <;> (first | omega | (simp only [AH.size_new, AH.size_put] <;> omega))))⟩) hn.1 (left) (by omega)).mono ?_
  rintro r B1 ⟨rfl, hE1⟩
  have v1 := hE1.size
  try simp only [AH.size_new, AH.size_put] at v1
  have e1 : (Mk.sz x.1 : Nat) = szL Mk.sz x.1 := rfl
  rw [e1]
  by_cases c1 : left - (szL Mk.sz x.1 : Nat) < 0
  · rw [szR_neg c1]
    simp (maxSteps := 2000000) (disch := first | omega | (simp only [AH.size_new, AH.size_put] <;> omega) | fail) only [amR Tryd.prog ro X, amS, seval, reduceCtorEq, ty3, ty9, ty22, ty24, ty206, ty208, ty234, hE1.get]
    exact ⟨(by rw [szR_neg (by omega : left - (Mk.sz x : Nat) < 0)]), by ((repeat' (first | exact Ext.refl _ | assumption | refine Ext.trans ?_ (Ext.new _ _) | refine Ext.put ?_ ?_ _ | refine Ext.trans ?_ (by assumption))) <;> (first | omega | (simp only [AH.size_new, AH.size_put] <;> omega)))⟩
  rw [szR_pos c1]
  simp (maxSteps := 2000000) (disch := first | omega | (simp only [AH.size_new, AH.size_put] <;> omega) | fail) only [amR Tryd.prog ro X, amS, seval, reduceCtorEq, ty3, ty9, ty22, ty24, ty206, ty208, ty234, hE1.get, c1]
  refine (szL_Glance _ (by first | omega | (simp only [AH.size_new, AH.size_put] <;> omega)) s2 _ _ (h2.ext (by ((repeat' (first | exact Ext.refl _ | assumption | refine Ext.trans ?_ (Ext.new _ _) | refine Ext.put ?_ ?_ _ | refine Ext.trans ?_ (by assumption))) <;> (first | omega | (simp only [AH.size_new, AH.size_put] <;> omega))))) hn.2.1 (left - (szL Mk.sz x.1 : Nat)) (by omega)).mono ?_
  rintro r B2 ⟨rfl, hE2⟩
  have v2 := hE2.size
  try simp only [AH.size_new, AH.size_put] at v2
  by_cases c2 : left - (szL Mk.sz x.1 : Nat) - (szL Mk.sz x.2.1 : Nat) < 0
  · rw [szR_neg c2]
    simp (maxSteps := 2000000) (disch := first | omega | (simp only [AH.size_new, AH.size_put] <;> omega) | fail) only [amR Tryd.prog ro X, amS, seval, reduceCtorEq, ty3, ty9, ty22, ty24, ty206, ty208, ty234, hE1.get, hE2.get]
    exact ⟨(by rw [szR_neg (by omega : left - (Mk.sz x : Nat) < 0)]), by ((repeat' (first | exact Ext.refl _ | assumption | refine Ext.trans ?_ (Ext.new _ _) | refine Ext.put ?_ ?_ _ | refine Ext.trans ?_ (by assumption))) <;> (first | omega | (simp only [AH.size_new, AH.size_put] <;> omega)))⟩
  rw [szR_pos c2]
  simp (maxSteps := 2000000) (disch := first | omega | (simp only [AH.size_new, AH.size_put] <;> omega) | fail) only [amR Tryd.prog ro X, amS, seval, reduceCtorEq, ty3, ty9, ty22, ty24, ty206, ty208, ty234, hE1.get, hE2.get, c2]
  refine CondB.split (fun h => ?_) (fun h => ?_)
  · have hc : left - (szL Mk.sz x.1 : Nat) - (szL Mk.sz x.2.1 : Nat) - (x.2.2.size : Nat) < 0 := by simpa using h
    simp (maxSteps := 2000000) (disch := first | omega | (simp only [AH.size_new, AH.size_put] <;> omega) | fail) only [amR Tryd.prog ro X, amS, seval, reduceCtorEq, ty3, ty9, ty22, ty24, ty206, ty208, ty234, hE1.get, hE2.get]
    exact ⟨(by rw [szR_neg (by omega : left - (Mk.sz x : Nat) < 0)]), by ((repeat' (first | exact Ext.refl _ | assumption | refine Ext.trans ?_ (Ext.new _ _) | refine Ext.put ?_ ?_ _ | refine Ext.trans ?_ (by assumption))) <;> (first | omega | (simp only [AH.size_new, AH.size_put] <;> omega)))⟩
  have c3 : ¬ (left - (szL Mk.sz x.1 : Nat) - (szL Mk.sz x.2.1 : Nat) - (x.2.2.size : Nat) < 0) := by simpa using h
  simp (maxSteps := 2000000) (disch := first | omega | (simp only [AH.size_new, AH.size_put] <;> omega) | fail) only [amR Tryd.prog ro X, amS, seval, reduceCtorEq, ty3, ty9, ty22, ty24, ty206, ty208, ty234, hE1.get, hE2.get]
  exact ⟨by rw [szR_pos (by omega : ¬ left - (Mk.sz x : Nat) < 0)]; congr 2 <;> omega, by ((repeat' (first | exact Ext.refl _ | assumption | refine Ext.trans ?_ (Ext.new _ _) | refine Ext.put ?_ ?_ _ | refine Ext.trans ?_ (by assumption))) <;> (first | omega | (simp only [AH.size_new, AH.size_put] <;> omega)))⟩
theorem szL_Record (A : AH) (hro : ro ≤ A.size) (s : Sl) (l : List TRecord) (F : List Nat) (hs : SlR A s l F) (hn : Mk.bd l) (left : Int) (hz : 0 ≤ left ∧ left ≤ 2097152) :
    ACalls Tryd.prog ro X 86 [s.v, .int .i64 left] A (fun r A' => r = .ret (.int .i64 (szR left (szL Mk.sz l))) ∧ Ext A A') := by
  have hl := hn.1
  have hw : Dat.w TRecord = 3 := rfl
  refine ACalls.enterQ (rs := [.tmp 4]) Tryd.func86 rfl (by kernel_rfl) rfl ?_
  simp (maxSteps := 2000000) (disch := first | omega | (simp only [AH.size_new, AH.size_put] <;> omega) | fail) only [amR Tryd.prog ro X, amS, seval, reduceCtorEq, ty3, ty9, ty24, ty48, ty206, ty208, hs.len]
  refine CondB.split (fun h => ?_) (fun h => ?_)
  · simp (maxSteps := 2000000) (disch := first | omega | (simp only [AH.size_new, AH.size_put] <;> omega) | fail) only [amR Tryd.prog ro X, amS, seval, reduceCtorEq, ty3, ty9, ty24, ty48, ty206, ty208]
    have h2 : left - l.length < 0 := by simpa using h
    have := szL_length Mk.sz l
    exact ⟨by rw [szR_neg (by omega)], Ext.refl A⟩
  · simp (maxSteps := 2000000) (disch := first | omega | (simp only [AH.size_new, AH.size_put] <;> omega) | fail) only [amR Tryd.prog ro X, amS, seval, reduceCtorEq, ty3, ty9, ty24, ty48, ty206, ty208]
    refine Wp.loopC (fun n e A' => Ext A A' ∧ e 0 = s.v ∧ ∃ i : Nat, i ≤ l.length ∧ n = l.length - i ∧ e 5 = .int .i64 i ∧ e 1 = .int .i64 (left - szL Mk.sz (l.take i) + i - l.length) ∧ 0 ≤ left - szL Mk.sz (l.take i) + i - l.length) (l.length - 0) ?_ ?_
    · simp (maxSteps := 2000000) (disch := first | omega | (simp only [AH.size_new, AH.size_put] <;> omega) | fail) only [amV, amH, amQ, amL, amN Tryd.prog, amS, seval, reduceCtorEq, ty3, ty9, ty24, ty48, ty206, ty208]
      refine ⟨Ext.refl A, 0, by omega, rfl, rfl, ?_⟩
      have : 0 ≤ left - l.length := by simpa using h
      simp only [List.take_zero, szL_nil]
      exact ⟨by congr 1 <;> omega, by omega⟩
    · rintro n e A' ⟨hE, h0, i, hi, rfl, h5, h1, hle⟩
      have v1 := hE.size
      simp (maxSteps := 2000000) (disch := first | omega | (simp only [AH.size_new, AH.size_put] <;> omega) | fail) only [amR Tryd.prog ro X, amS, seval, reduceCtorEq, ty3, ty9, ty24, ty48, ty206, ty208, h0, h5, hs.len]
      refine CondB.split (fun h => ?_) (fun h => ?_)
      · have hil : i < l.length := by simp at h; omega
        obtain ⟨n1, b1, m1, i1, cs, Fi, c1, q1, _⟩ := (hs.ext hE).row hil
        rw [aRow_eq, hw] at c1
        have hst := szL_take_succ Mk.sz l i hil
        have hge := szL_take_le Mk.sz l (i + 1)
        have hge0 := szL_take_le Mk.sz l i
        have hti := szL_length Mk.sz (l.take i)
        rw [List.length_take, Nat.min_eq_left hi] at hti
        simp (maxSteps := 2000000) (disch := first | omega | (simp only [AH.size_new, AH.size_put] <;> omega) | fail) only [amR Tryd.prog ro X, amS, seval, reduceCtorEq, ty3, ty9, ty24, ty48, ty206, ty208, h0, h1, h5, n1, c1]
        refine (sz_Record _ (by omega) l[i] cs Fi q1 (hn.2 _ (List.getElem_mem hil)) _ ⟨hle, by omega⟩).mono ?_
        rintro r A2 ⟨rfl, hE2⟩
        by_cases hc : left - szL Mk.sz (l.take i) + i - l.length - (Mk.sz l[i] : Nat) < 0
        · rw [szR_neg hc]
          simp (maxSteps := 2000000) (disch := first | omega | (simp only [AH.size_new, AH.size_put] <;> omega) | fail) only [amR Tryd.prog ro X, amS, seval, reduceCtorEq, ty3, ty9, ty24, ty48, ty206, ty208]
          exact ⟨by rw [szR_neg (by omega)], hE.trans hE2⟩
        · rw [szR_pos hc]
          simp (maxSteps := 2000000) (disch := first | omega | (simp only [AH.size_new, AH.size_put] <;> omega) | fail) only [amR Tryd.prog ro X, amS, seval, reduceCtorEq, ty3, ty9, ty24, ty48, ty206, ty208, h0, h5, hc]
          exact ⟨l.length - (i + 1), by omega, hE.trans hE2, i + 1, by omega, rfl, rfl, by congr 1 <;> omega, by omega⟩
      · have hil : i = l.length := by simp at h; omega
        subst hil
        rw [List.take_length] at h1 hle
        simp (maxSteps := 2000000) (disch := first | omega | (simp only [AH.size_new, AH.size_put] <;> omega) | fail) only [amR Tryd.prog ro X, amS, seval, reduceCtorEq, ty3, ty9, ty24, ty48, ty206, ty208, h1]
        exact ⟨by rw [szR_pos (by omega)]; congr 2; omega, hE⟩
theorem to_Store (A : AH) (hro : ro ≤ A.size) (x : TStore) (cs : List Value) (F : List Nat) (h : Dat.rep A x cs F) (hz : Mk.sz x < 4294967296) :
    ACalls Tryd.prog ro X 28 [.agg cs.toArray] A (fun r A' => ∃ cs' F', r = .ret (.agg cs'.toArray) ∧ Dat.rep A' x cs' F' ∧ Fresh A F' A' ∧ Ext A A') := by
  obtain ⟨s1, s2, G1, G2, rfl, rfl, h1, h2⟩ := rep_Store.1 h
  have hsz : Mk.sz x = 0 + (szL Mk.sz x.2.1 + (szL Mk.sz x.2.2)) := rfl
  refine ACalls.enterQ (rs := [.cell 2 55]) Tryd.func28 rfl (by kernel_rfl) rfl ?_
  simp (maxSteps := 2000000) (disch := first | omega | (simp only [AH.size_new, AH.size_put] <;> omega) | fail) only [amR Tryd.prog ro X, amS, seval, reduceCtorEq, ty3, ty9, ty47, ty48, ty50, ty53, ty55, ty69, ty208]
  refine (toL_str _ (by first | omega | (simp only [AH.size_new, AH.size_put] <;> omega)) s1 _ _ (h1.ext (by ((repeat' (first | exact Ext.refl _ | assumption | refine Ext.trans ?_ (Ext.new _ _) | refine Ext.put ?_ ?_ _ | refine Ext.trans ?_ (by assumption))) <;> (first | omega | (simp only [AH.size_new, AH.size_put] <;> omega))))) (by omega)).mono ?_
  rintro r B1 ⟨t1, H1, rfl, q1, f1, hE1⟩
  have v1 := hE1.size
  try simp only [AH.size_new, AH.size_put] at v1
  simp (maxSteps := 2000000) (disch := first | omega | (simp only [AH.size_new, AH.size_put] <;> omega) | fail) only [amR Tryd.prog ro X, amS, seval, reduceCtorEq, ty3, ty9, ty47, ty48, ty50, ty53, ty55, ty69, ty208, hE1.get]
  refine (toL_Record _ (by first | omega | (simp only [AH.size_new, AH.size_put] <;> omega)) s2 _ _ (h2.ext (by ((repeat' (first | exact Ext.refl _ | assumption | refine Ext.trans ?_ (Ext.new _ _) | refine Ext.put ?_ ?_ _ | refine Ext.trans ?_ (by assumption))) <;> (first | omega | (simp only [AH.size_new, AH.size_put] <;> omega))))) (by omega)).mono ?_
  rintro r B2 ⟨t2, H2, rfl, q2, f2, hE2⟩
  have v2 := hE2.size
  try simp only [AH.size_new, AH.size_put] at v2
  simp (maxSteps := 2000000) (disch := first | omega | (simp only [AH.size_new, AH.size_put] <;> omega) | fail) only [amR Tryd.prog ro X, amS, seval, reduceCtorEq, ty3, ty9, ty47, ty48, ty50, ty53, ty55, ty69, ty208, hE1.get, hE2.get]
  exact ⟨_, _, rfl, rep_Store.2 ⟨t1, t2, _, _, rfl, rfl, q1.low f1.lo (by ((repeat' (first | exact Low.refl _ _ | assumption | refine Low.new ?_ _ | refine Low.put ?_ ?_ _ | refine Low.trans ?_ (Ext.low (by assumption) _))) <;> (first | omega | (simp only [AH.size_new, AH.size_put] <;> omega)))), q2.low f2.lo (by ((repeat' (first | exact Low.refl _ _ | assumption | refine Low.new ?_ _ | refine Low.put ?_ ?_ _ | refine Low.trans ?_ (Ext.low (by assumption) _))) <;> (first | omega | (simp only [AH.size_new, AH.size_put] <;> omega))))⟩, (f1.mono (by first | omega | (simp only [AH.size_new, AH.size_put] <;> omega)) (Nat.le_refl _)).append (f2.mono (by first | omega | (simp only [AH.size_new, AH.size_put] <;> omega)) (by first | omega | (simp only [AH.size_new, AH.size_put] <;> omega))) (by first | omega | (simp only [AH.size_new, AH.size_put] <;> omega)) (by first | omega | (simp only [AH.size_new, AH.size_put] <;> omega)), by ((repeat' (first | exact Ext.refl _ | assumption | refine Ext.trans ?_ (Ext.new _ _) | refine Ext.put ?_ ?_ _ | refine Ext.trans ?_ (by assumption))) <;> (first | omega | (simp only [AH.size_new, AH.size_put] <;> omega)))⟩
theorem eq_Store (A : AH) (hro : ro ≤ A.size) (x y : TStore) (cs ds : List Value) (F F' : List Nat) (h : Dat.rep A x cs F) (h' : Dat.rep A y ds F') (hz : Mk.sz x < 4294967296) :
    ACalls Tryd.prog ro X 30 [.agg cs.toArray, .agg ds.toArray] A (fun r A' => r = .ret (.bool (decide (x = y))) ∧ Ext A A') := by
  obtain ⟨s1, s2, G1, G2, rfl, rfl, h1, h2⟩ := rep_Store.1 h
  obtain ⟨s1', s2', G1', G2', rfl, rfl, h1', h2'⟩ := rep_Store.1 h'
  have hsz : Mk.sz x = 0 + (szL Mk.sz x.2.1 + (szL Mk.sz x.2.2)) := rfl
  refine ACalls.enterQ (rs := [.tmp 4]) Tryd.func30 rfl (by kernel_rfl) rfl ?_
  simp (maxSteps := 2000000) (disch := first | omega | (simp only [AH.size_new, AH.size_put] <;> omega) | fail) only [amR Tryd.prog ro X, amS, seval, reduceCtorEq, ty3, ty4, ty9, ty47, ty53, ty55, ty69]
  refine CondB.split (fun h => ?_) (fun h => ?_)
  · have hc : ¬ x.1 = y.1 := by simpa using h
    simp (maxSteps := 2000000) (disch := first | omega | (simp only [AH.size_new, AH.size_put] <;> omega) | fail) only [amR Tryd.prog ro X, amS, seval, reduceCtorEq, ty3, ty4, ty9, ty47, ty53, ty55, ty69]
    exact ⟨by rw [decide_eq_false (fun e => hc (by rw [e]))], by ((repeat' (first | exact Ext.refl _ | assumption | refine Ext.trans ?_ (Ext.new _ _) | refine Ext.put ?_ ?_ _ | refine Ext.trans ?_ (by assumption))) <;> (first | omega | (simp only [AH.size_new, AH.size_put] <;> omega)))⟩
  have c1 : x.1 = y.1 := by simpa using h
  simp (maxSteps := 2000000) (disch := first | omega | (simp only [AH.size_new, AH.size_put] <;> omega) | fail) only [amR Tryd.prog ro X, amS, seval, reduceCtorEq, ty3, ty4, ty9, ty47, ty53, ty55, ty69]
  refine (eqL_str _ (by first | omega | (simp only [AH.size_new, AH.size_put] <;> omega)) s1 s1' _ _ _ _ (h1.ext (by ((repeat' (first | exact Ext.refl _ | assumption | refine Ext.trans ?_ (Ext.new _ _) | refine Ext.put ?_ ?_ _ | refine Ext.trans ?_ (by assumption))) <;> (first | omega | (simp only [AH.size_new, AH.size_put] <;> omega))))) (h1'.ext (by ((repeat' (first | exact Ext.refl _ | assumption | refine Ext.trans ?_ (Ext.new _ _) | refine Ext.put ?_ ?_ _ | refine Ext.trans ?_ (by assumption))) <;> (first | omega | (simp only [AH.size_new, AH.size_put] <;> omega))))) (by omega)).mono ?_
  rintro r B2 ⟨rfl, hE2⟩
  have v2 := hE2.size
  try simp only [AH.size_new, AH.size_put] at v2
  simp (maxSteps := 2000000) (disch := first | omega | (simp only [AH.size_new, AH.size_put] <;> omega) | fail) only [amR Tryd.prog ro X, amS, seval, reduceCtorEq, ty3, ty4, ty9, ty47, ty53, ty55, ty69, hE2.get]
  refine CondB.split (fun h => ?_) (fun h => ?_)
  · have hc : ¬ x.2.1 = y.2.1 := by simpa using h
    simp (maxSteps := 2000000) (disch := first | omega | (simp only [AH.size_new, AH.size_put] <;> omega) | fail) only [amR Tryd.prog ro X, amS, seval, reduceCtorEq, ty3, ty4, ty9, ty47, ty53, ty55, ty69, hE2.get]
    exact ⟨by rw [decide_eq_false (fun e => hc (by rw [e]))], by ((repeat' (first | exact Ext.refl _ | assumption | refine Ext.trans ?_ (Ext.new _ _) | refine Ext.put ?_ ?_ _ | refine Ext.trans ?_ (by assumption))) <;> (first | omega | (simp only [AH.size_new, AH.size_put] <;> omega)))⟩
  have c2 : x.2.1 = y.2.1 := by simpa using h
  simp (maxSteps := 2000000) (disch := first | omega | (simp only [AH.size_new, AH.size_put] <;> omega) | fail) only [amR Tryd.prog ro X, amS, seval, reduceCtorEq, ty3, ty4, ty9, ty47, ty53, ty55, ty69, hE2.get]
  refine (eqL_Record _ (by first | omega | (simp only [AH.size_new, AH.size_put] <;> omega)) s2 s2' _ _ _ _ (h2.ext (by ((repeat' (first | exact Ext.refl _ | assumption | refine Ext.trans ?_ (Ext.new _ _) | refine Ext.put ?_ ?_ _ | refine Ext.trans ?_ (by assumption))) <;> (first | omega | (simp only [AH.size_new, AH.size_put] <;> omega))))) (h2'.ext (by ((repeat' (first | exact Ext.refl _ | assumption | refine Ext.trans ?_ (Ext.new _ _) | refine Ext.put ?_ ?_ _ | refine Ext.trans ?_ (by assumption))) <;> (first | omega | (simp only [AH.size_new, AH.size_put] <;> omega))))) (by omega)).mono ?_
  rintro r B3 ⟨rfl, hE3⟩
  have v3 := hE3.size
  try simp only [AH.size_new, AH.size_put] at v3
  simp (maxSteps := 2000000) (disch := first | omega | (simp only [AH.size_new, AH.size_put] <;> omega) | fail) only [amR Tryd.prog ro X, amS, seval, reduceCtorEq, ty3, ty4, ty9, ty47, ty53, ty55, ty69, hE2.get, hE3.get]
  refine CondB.split (fun h => ?_) (fun h => ?_)
  · have hc : ¬ x.2.2 = y.2.2 := by simpa using h
    simp (maxSteps := 2000000) (disch := first | omega | (simp only [AH.size_new, AH.size_put] <;> omega) | fail) only [amR Tryd.prog ro X, amS, seval, reduceCtorEq, ty3, ty4, ty9, ty47, ty53, ty55, ty69, hE2.get, hE3.get]
    exact ⟨by rw [decide_eq_false (fun e => hc (by rw [e]))], by ((repeat' (first | exact Ext.refl _ | assumption | refine Ext.trans ?_ (Ext.new _ _) | refine Ext.put ?_ ?_ _ | refine Ext.trans ?_ (by assumption))) <;> (first | omega | (simp only [AH.size_new, AH.size_put] <;> omega)))⟩
  have c3 : x.2.2 = y.2.2 := by simpa using h
  simp (maxSteps := 2000000) (disch := first | omega | (simp only [AH.size_new, AH.size_put] <;> omega) | fail) only [amR Tryd.prog ro X, amS, seval, reduceCtorEq, ty3, ty4, ty9, ty47, ty53, ty55, ty69, hE2.get, hE3.get]
  exact ⟨by rw [decide_eq_true (Prod.ext c1 (Prod.ext c2 (c3)))], by ((repeat' (first | exact Ext.refl _ | assumption | refine Ext.trans ?_ (Ext.new _ _) | refine Ext.put ?_ ?_ _ | refine Ext.trans ?_ (by assumption))) <;> (first | omega | (simp only [AH.size_new, AH.size_put] <;> omega)))⟩
theorem sz_Store (A : AH) (hro : ro ≤ A.size) (x : TStore) (cs : List Value) (F : List Nat) (h : Dat.rep A x cs F) (hn : Mk.bd x) (left : Int) (hz : 0 ≤ left ∧ left ≤ 2097152) :
    ACalls Tryd.prog ro X 26 [.agg cs.toArray, .int .i64 left] A (fun r A' => r = .ret (.int .i64 (szR left (Mk.sz x))) ∧ Ext A A') := by
  obtain ⟨s1, s2, G1, G2, rfl, rfl, h1, h2⟩ := rep_Store.1 h
  have hsz : Mk.sz x = 0 + (szL Mk.sz x.2.1 + (szL Mk.sz x.2.2)) := rfl
  refine ACalls.enterQ (rs := [.tmp 4]) Tryd.func26 rfl (by kernel_rfl) rfl ?_
  simp (maxSteps := 2000000) (disch := first | omega | (simp only [AH.size_new, AH.size_put] <;> omega) | fail) only [amR Tryd.prog ro X, amS, seval, reduceCtorEq, ty3, ty9, ty47, ty48, ty50, ty208]
  refine (szL_str _ (by first | omega | (simp only [AH.size_new, AH.size_put] <;> omega)) s1 _ _ (h1.ext (by ((repeat' (first | exact Ext.refl _ | assumption | refine Ext.trans ?_ (Ext.new _ _) | refine Ext.put ?_ ?_ _ | refine Ext.trans ?_ (by assumption))) <;> (first | omega | (simp only [AH.size_new, AH.size_put] <;> omega))))) hn.2.1 (left) (by omega)).mono ?_
  rintro r B1 ⟨rfl, hE1⟩
  have v1 := hE1.size
  try simp only [AH.size_new, AH.size_put] at v1
  by_cases c1 : left - (szL Mk.sz x.2.1 : Nat) < 0
  · rw [szR_neg c1]
    simp (maxSteps := 2000000) (disch := first | omega | (simp only [AH.size_new, AH.size_put] <;> omega) | fail) only [amR Tryd.prog ro X, amS, seval, reduceCtorEq, ty3, ty9, ty47, ty48, ty50, ty208, hE1.get]
    exact ⟨(by rw [szR_neg (by omega : left - (Mk.sz x : Nat) < 0)]), by ((repeat' (first | exact Ext.refl _ | assumption | refine Ext.trans ?_ (Ext.new _ _) | refine Ext.put ?_ ?_ _ | refine Ext.trans ?_ (by assumption))) <;> (first | omega | (simp only [AH.size_new, AH.size_put] <;> omega)))⟩
  rw [szR_pos c1]
  simp (maxSteps := 2000000) (disch := first | omega | (simp only [AH.size_new, AH.size_put] <;> omega) | fail) only [amR Tryd.prog ro X, amS, seval, reduceCtorEq, ty3, ty9, ty47, ty48, ty50, ty208, hE1.get, c1]
  refine (szL_Record _ (by first | omega | (simp only [AH.size_new, AH.size_put] <;> omega)) s2 _ _ (h2.ext (by ((repeat' (first | exact Ext.refl _ | assumption | refine Ext.trans ?_ (Ext.new _ _) | refine Ext.put ?_ ?_ _ | refine Ext.trans ?_ (by assumption))) <;> (first | omega | (simp only [AH.size_new, AH.size_put] <;> omega))))) hn.2.2 (left - (szL Mk.sz x.2.1 : Nat)) (by omega)).mono ?_
  rintro r B2 ⟨rfl, hE2⟩
  have v2 := hE2.size
  try simp only [AH.size_new, AH.size_put] at v2
  by_cases c2 : left - (szL Mk.sz x.2.1 : Nat) - (szL Mk.sz x.2.2 : Nat) < 0
  · rw [szR_neg c2]
    simp (maxSteps := 2000000) (disch := first | omega | (simp only [AH.size_new, AH.size_put] <;> omega) | fail) only [amR Tryd.prog ro X, amS, seval, reduceCtorEq, ty3, ty9, ty47, ty48, ty50, ty208, hE1.get, hE2.get]
    exact ⟨(by rw [szR_neg (by omega : left - (Mk.sz x : Nat) < 0)]), by ((repeat' (first | exact Ext.refl _ | assumption | refine Ext.trans ?_ (Ext.new _ _) | refine Ext.put ?_ ?_ _ | refine Ext.trans ?_ (by assumption))) <;> (first | omega | (simp only [AH.size_new, AH.size_put] <;> omega)))⟩
  rw [szR_pos c2]
  simp (maxSteps := 2000000) (disch := first | omega | (simp only [AH.size_new, AH.size_put] <;> omega) | fail) only [amR Tryd.prog ro X, amS, seval, reduceCtorEq, ty3, ty9, ty47, ty48, ty50, ty208, hE1.get, hE2.get, c2]
  exact ⟨by rw [szR_pos (by omega : ¬ left - (Mk.sz x : Nat) < 0)]; congr 2 <;> omega, by ((repeat' (first | exact Ext.refl _ | assumption | refine Ext.trans ?_ (Ext.new _ _) | refine Ext.put ?_ ?_ _ | refine Ext.trans ?_ (by assumption))) <;> (first | omega | (simp only [AH.size_new, AH.size_put] <;> omega)))⟩
theorem eq_Kept (A : AH) (hro : ro ≤ A.size) (x y : TKept) (cs ds : List Value) (F F' : List Nat) (h : Dat.rep A x cs F) (h' : Dat.rep A y ds F') (hz : Mk.sz x < 4294967296) :
    ACalls Tryd.prog ro X 53 [.agg cs.toArray, .agg ds.toArray] A (fun r A' => r = .ret (.bool (decide (x = y))) ∧ Ext A A') := by
  obtain ⟨s1, s2, G1, G2, rfl, rfl, h1, h2, z1, z2⟩ := rep_Kept.1 h
  obtain ⟨s1', s2', G1', G2', rfl, rfl, h1', h2', z1', z2'⟩ := rep_Kept.1 h'
  have hsz : Mk.sz x = 0 + ((0 + (szL Mk.sz x.2.1.2.1 + (szL Mk.sz x.2.1.2.2))) + (x.2.2.1.size + (x.2.2.2.size))) := rfl
  refine ACalls.enterQ (rs := [.tmp 4]) Tryd.func53 rfl (by kernel_rfl) rfl ?_
  simp (maxSteps := 2000000) (disch := first | omega | (simp only [AH.size_new, AH.size_put] <;> omega) | fail) only [amR Tryd.prog ro X, amS, seval, reduceCtorEq, ty3, ty4, ty9, ty47, ty53, ty55, ty88]
  refine CondB.split (fun h => ?_) (fun h => ?_)
  · have hc : ¬ x.1 = y.1 := by simpa using h
    simp (maxSteps := 2000000) (disch := first | omega | (simp only [AH.size_new, AH.size_put] <;> omega) | fail) only [amR Tryd.prog ro X, amS, seval, reduceCtorEq, ty3, ty4, ty9, ty47, ty53, ty55, ty88]
    exact ⟨by rw [decide_eq_false (fun e => hc (by rw [e]))], by ((repeat' (first | exact Ext.refl _ | assumption | refine Ext.trans ?_ (Ext.new _ _) | refine Ext.put ?_ ?_ _ | refine Ext.trans ?_ (by assumption))) <;> (first | omega | (simp only [AH.size_new, AH.size_put] <;> omega)))⟩
  have c1 : x.1 = y.1 := by simpa using h
  simp (maxSteps := 2000000) (disch := first | omega | (simp only [AH.size_new, AH.size_put] <;> omega) | fail) only [amR Tryd.prog ro X, amS, seval, reduceCtorEq, ty3, ty4, ty9, ty47, ty53, ty55, ty88]
  refine (eq_Store _ (by first | omega | (simp only [AH.size_new, AH.size_put] <;> omega)) x.2.1 y.2.1 _ _ _ _ (rep_Store.2 ⟨s1, s2, _, _, rfl, rfl, h1.ext (by ((repeat' (first | exact Ext.refl _ | assumption | refine Ext.trans ?_ (Ext.new _ _) | refine Ext.put ?_ ?_ _ | refine Ext.trans ?_ (by assumption))) <;> (first | omega | (simp only [AH.size_new, AH.size_put] <;> omega)))), h2.ext (by ((repeat' (first | exact Ext.refl _ | assumption | refine Ext.trans ?_ (Ext.new _ _) | refine Ext.put ?_ ?_ _ | refine Ext.trans ?_ (by assumption))) <;> (first | omega | (simp only [AH.size_new, AH.size_put] <;> omega))))⟩) (rep_Store.2 ⟨s1', s2', _, _, rfl, rfl, h1'.ext (by ((repeat' (first | exact Ext.refl _ | assumption | refine Ext.trans ?_ (Ext.new _ _) | refine Ext.put ?_ ?_ _ | refine Ext.trans ?_ (by assumption))) <;> (first | omega | (simp only [AH.size_new, AH.size_put] <;> omega)))), h2'.ext (by ((repeat' (first | exact Ext.refl _ | assumption | refine Ext.trans ?_ (Ext.new _ _) | refine Ext.put ?_ ?_ _ | refine Ext.trans ?_ (by assumption))) <;> (first | omega | (simp only [AH.size_new, AH.size_put] <;> omega))))⟩) (by show 0 + (szL Mk.sz x.2.1.2.1 + (szL Mk.sz x.2.1.2.2)) < _; omega)).mono ?_
  rintro r B2 ⟨rfl, hE2⟩
  have v2 := hE2.size
  try simp only [AH.size_new, AH.size_put] at v2
  simp (maxSteps := 2000000) (disch := first | omega | (simp only [AH.size_new, AH.size_put] <;> omega) | fail) only [amR Tryd.prog ro X, amS, seval, reduceCtorEq, ty3, ty4, ty9, ty47, ty53, ty55, ty88, hE2.get]
  refine CondB.split (fun h => ?_) (fun h => ?_)
  · have hc : ¬ x.2.1 = y.2.1 := by simpa using h
    simp (maxSteps := 2000000) (disch := first | omega | (simp only [AH.size_new, AH.size_put] <;> omega) | fail) only [amR Tryd.prog ro X, amS, seval, reduceCtorEq, ty3, ty4, ty9, ty47, ty53, ty55, ty88, hE2.get]
    exact ⟨by rw [decide_eq_false (fun e => hc (by rw [e]))], by ((repeat' (first | exact Ext.refl _ | assumption | refine Ext.trans ?_ (Ext.new _ _) | refine Ext.put ?_ ?_ _ | refine Ext.trans ?_ (by assumption))) <;> (first | omega | (simp only [AH.size_new, AH.size_put] <;> omega)))⟩
  have c2 : x.2.1 = y.2.1 := by simpa using h
  simp (maxSteps := 2000000) (disch := first | omega | (simp only [AH.size_new, AH.size_put] <;> omega) | fail) only [amR Tryd.prog ro X, amS, seval, reduceCtorEq, ty3, ty4, ty9, ty47, ty53, ty55, ty88, hE2.get]
  refine CondB.split (fun h => ?_) (fun h => ?_)
  · have hc : ¬ x.2.2.1 = y.2.2.1 := by simpa using h
    simp (maxSteps := 2000000) (disch := first | omega | (simp only [AH.size_new, AH.size_put] <;> omega) | fail) only [amR Tryd.prog ro X, amS, seval, reduceCtorEq, ty3, ty4, ty9, ty47, ty53, ty55, ty88, hE2.get]
    exact ⟨by rw [decide_eq_false (fun e => hc (by rw [e]))], by ((repeat' (first | exact Ext.refl _ | assumption | refine Ext.trans ?_ (Ext.new _ _) | refine Ext.put ?_ ?_ _ | refine Ext.trans ?_ (by assumption))) <;> (first | omega | (simp only [AH.size_new, AH.size_put] <;> omega)))⟩
  have c3 : x.2.2.1 = y.2.2.1 := by simpa using h
  simp (maxSteps := 2000000) (disch := first | omega | (simp only [AH.size_new, AH.size_put] <;> omega) | fail) only [amR Tryd.prog ro X, amS, seval, reduceCtorEq, ty3, ty4, ty9, ty47, ty53, ty55, ty88, hE2.get]
  refine CondB.split (fun h => ?_) (fun h => ?_)
  · have hc : ¬ x.2.2.2 = y.2.2.2 := by simpa using h
    simp (maxSteps := 2000000) (disch := first | omega | (simp only [AH.size_new, AH.size_put] <;> omega) | fail) only [amR Tryd.prog ro X, amS, seval, reduceCtorEq, ty3, ty4, ty9, ty47, ty53, ty55, ty88, hE2.get]
    exact ⟨by rw [decide_eq_false (fun e => hc (by rw [e]))], by ((repeat' (first | exact Ext.refl _ | assumption | refine Ext.trans ?_ (Ext.new _ _) | refine Ext.put ?_ ?_ _ | refine Ext.trans ?_ (by assumption))) <;> (first | omega | (simp only [AH.size_new, AH.size_put] <;> omega)))⟩
  have c4 : x.2.2.2 = y.2.2.2 := by simpa using h
  simp (maxSteps := 2000000) (disch := first | omega | (simp only [AH.size_new, AH.size_put] <;> omega) | fail) only [amR Tryd.prog ro X, amS, seval, reduceCtorEq, ty3, ty4, ty9, ty47, ty53, ty55, ty88, hE2.get]
  exact ⟨by rw [decide_eq_true (Prod.ext c1 (Prod.ext c2 (Prod.ext c3 (c4))))], by ((repeat' (first | exact Ext.refl _ | assumption | refine Ext.trans ?_ (Ext.new _ _) | refine Ext.put ?_ ?_ _ | refine Ext.trans ?_ (by assumption))) <;> (first | omega | (simp only [AH.size_new, AH.size_put] <;> omega)))⟩
end Go.Proofs.YtcdnlghlbljopaaDoor.Amu.Law
