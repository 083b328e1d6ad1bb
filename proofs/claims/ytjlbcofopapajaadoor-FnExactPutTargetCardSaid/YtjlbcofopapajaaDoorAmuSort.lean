import Derived.Test.YtjlbcofopapajaaDoorAmSort
import Derived.Test.YtjlbcofopapajaaDoorProg
import Derived.Shelf.SlSortFuncK.WholeK
import Derived.Shelf.GgSortFunc.Tiny
import Derived.Deep.QuietTactic
import Derived.WalkKit
namespace Go.Proofs.YtjlbcofopapajaaDoor.Amu.Sort
open Go Go.AM Go.Proofs Go.Shelf Go.RowKit Go.Sort
set_option linter.all false
def sl6_ren : Go.Shelf.Ren := ⟨fun | 6 => 80 | 10 => 138 | 11 => 139 | 12 => 140 | 13 => 141 | 14 => 142 | 24 => 191 | 25 => 192 | 26 => 193 | 27 => 194 | 28 => 195 | 29 => 196 | 30 => 197 | 31 => 198 | 32 => 199 | 33 => 200 | 34 => 225 | 35 => 226 | 36 => 227 | 37 => 228 | 38 => 229 | 39 => 247 | n => n, fun | 20 => 20 | 26 => 134 | 35 => 215 | 0 => 0 | 37 => 217 | 3 => 3 | 41 => 201 | 44 => 222 | 49 => 263 | 51 => 254 | 4 => 4 | 54 => 267 | 53 => 266 | 58 => 271 | 5 => 5 | 9 => 9 | 60 => 289 | 64 => 293 | 66 => 306 | 67 => 247 | 17 => 17 | 32 => 212 | 33 => 213 | 82 => 336 | 12 => 12 | 75 => 330 | 76 => 331 | 77 => 332 | 78 => 190 | 79 => 333 | 80 => 334 | n => n, fun | n => n⟩
theorem sl6 : Go.Proofs.LaysGg.n6 Tryd.prog sl6_ren := {
 mixed := by kernel_rfl
 f6 := Tryd.func80.trans (congrArg some (by kernel_rfl))
 f10 := Tryd.func138.trans (congrArg some (by kernel_rfl))
 f11 := Tryd.func139.trans (congrArg some (by kernel_rfl))
 f12 := Tryd.func140.trans (congrArg some (by kernel_rfl))
 f13 := Tryd.func141.trans (congrArg some (by kernel_rfl))
 f14 := Tryd.func142.trans (congrArg some (by kernel_rfl))
 f24 := Tryd.func191.trans (congrArg some (by kernel_rfl))
 f25 := Tryd.func192.trans (congrArg some (by kernel_rfl))
 f26 := Tryd.func193.trans (congrArg some (by kernel_rfl))
 f27 := Tryd.func194.trans (congrArg some (by kernel_rfl))
 f28 := Tryd.func195.trans (congrArg some (by kernel_rfl))
 f29 := Tryd.func196.trans (congrArg some (by kernel_rfl))
 f30 := Tryd.func197.trans (congrArg some (by kernel_rfl))
 f31 := Tryd.func198.trans (congrArg some (by kernel_rfl))
 f32 := Tryd.func199.trans (congrArg some (by kernel_rfl))
 f33 := Tryd.func200.trans (congrArg some (by kernel_rfl))
 f34 := Tryd.func225.trans (congrArg some (by kernel_rfl))
 f35 := Tryd.func226.trans (congrArg some (by kernel_rfl))
 f36 := Tryd.func227.trans (congrArg some (by kernel_rfl))
 f37 := Tryd.func228.trans (congrArg some (by kernel_rfl))
 f38 := Tryd.func229.trans (congrArg some (by kernel_rfl))
 f39 := Tryd.func247.trans (congrArg some (by kernel_rfl))
 t0 := Tryd.underlying0
 a0 := Tryd.isAgg0
 z0 := Tryd.sizeOf0
 v0 := Tryd.zeroValue0
 i0 := by kernel_rfl
 t3 := Tryd.underlying3
 a3 := Tryd.isAgg3
 z3 := Tryd.sizeOf3
 v3 := Tryd.zeroValue3
 i3 := by kernel_rfl
 t4 := Tryd.underlying4
 a4 := Tryd.isAgg4
 z4 := Tryd.sizeOf4
 v4 := Tryd.zeroValue4
 i4 := by kernel_rfl
 t5 := Tryd.underlying5
 a5 := Tryd.isAgg5
 z5 := Tryd.sizeOf5
 v5 := Tryd.zeroValue5
 i5 := by kernel_rfl
 t9 := Tryd.underlying9
 a9 := Tryd.isAgg9
 z9 := Tryd.sizeOf9
 v9 := Tryd.zeroValue9
 i9 := by kernel_rfl
 t12 := Tryd.underlying12
 a12 := Tryd.isAgg12
 z12 := Tryd.sizeOf12
 v12 := Tryd.zeroValue12
 i12 := by kernel_rfl
 t17 := Tryd.underlying17
 a17 := Tryd.isAgg17
 z17 := Tryd.sizeOf17
 v17 := Tryd.zeroValue17
 i17 := by kernel_rfl
 t20 := Tryd.underlying20
 a20 := Tryd.isAgg20
 z20 := Tryd.sizeOf20
 v20 := Tryd.zeroValue20
 i20 := by kernel_rfl
 t26 := Tryd.underlying134
 a26 := Tryd.isAgg134
 z26 := Tryd.sizeOf134
 v26 := Tryd.zeroValue134
 i26 := by kernel_rfl
 t32 := Tryd.underlying212
 a32 := Tryd.isAgg212
 z32 := Tryd.sizeOf212
 v32 := Tryd.zeroValue212
 i32 := by kernel_rfl
 t33 := Tryd.underlying213
 a33 := Tryd.isAgg213
 z33 := Tryd.sizeOf213
 v33 := Tryd.zeroValue213
 i33 := by kernel_rfl
 t35 := Tryd.underlying215
 a35 := Tryd.isAgg215
 z35 := Tryd.sizeOf215
 v35 := Tryd.zeroValue215
 i35 := by kernel_rfl
 t37 := Tryd.underlying217
 a37 := Tryd.isAgg217
 z37 := Tryd.sizeOf217
 v37 := Tryd.zeroValue217
 i37 := by kernel_rfl
 t41 := Tryd.underlying201
 a41 := Tryd.isAgg201
 z41 := Tryd.sizeOf201
 v41 := Tryd.zeroValue201
 i41 := by kernel_rfl
 t44 := Tryd.underlying222
 a44 := Tryd.isAgg222
 z44 := Tryd.sizeOf222
 v44 := Tryd.zeroValue222
 i44 := by kernel_rfl
 t49 := Tryd.underlying263
 a49 := Tryd.isAgg263
 z49 := Tryd.sizeOf263
 v49 := Tryd.zeroValue263
 i49 := by kernel_rfl
 t51 := Tryd.underlying254
 a51 := Tryd.isAgg254
 z51 := Tryd.sizeOf254
 v51 := Tryd.zeroValue254
 i51 := by kernel_rfl
 t53 := Tryd.underlying266
 a53 := Tryd.isAgg266
 z53 := Tryd.sizeOf266
 v53 := Tryd.zeroValue266
 i53 := by kernel_rfl
 t54 := Tryd.underlying267
 a54 := Tryd.isAgg267
 z54 := Tryd.sizeOf267
 v54 := Tryd.zeroValue267
 i54 := by kernel_rfl
 t58 := Tryd.underlying271
 a58 := Tryd.isAgg271
 z58 := Tryd.sizeOf271
 v58 := Tryd.zeroValue271
 i58 := by kernel_rfl
 t60 := Tryd.underlying289
 a60 := Tryd.isAgg289
 z60 := Tryd.sizeOf289
 v60 := Tryd.zeroValue289
 i60 := by kernel_rfl
 t64 := Tryd.underlying293
 a64 := Tryd.isAgg293
 z64 := Tryd.sizeOf293
 v64 := Tryd.zeroValue293
 i64 := by kernel_rfl
 t66 := Tryd.underlying306
 a66 := Tryd.isAgg306
 z66 := Tryd.sizeOf306
 v66 := Tryd.zeroValue306
 i66 := by kernel_rfl
 t67 := Tryd.underlying247
 a67 := Tryd.isAgg247
 z67 := Tryd.sizeOf247
 v67 := Tryd.zeroValue247
 i67 := by kernel_rfl
 t75 := Tryd.underlying330
 a75 := Tryd.isAgg330
 z75 := Tryd.sizeOf330
 v75 := Tryd.zeroValue330
 i75 := by kernel_rfl
 t76 := Tryd.underlying331
 a76 := Tryd.isAgg331
 z76 := Tryd.sizeOf331
 v76 := Tryd.zeroValue331
 i76 := by kernel_rfl
 t77 := Tryd.underlying332
 a77 := Tryd.isAgg332
 z77 := Tryd.sizeOf332
 v77 := Tryd.zeroValue332
 i77 := by kernel_rfl
 t78 := Tryd.underlying190
 a78 := Tryd.isAgg190
 z78 := Tryd.sizeOf190
 v78 := Tryd.zeroValue190
 i78 := by kernel_rfl
 t79 := Tryd.underlying333
 a79 := Tryd.isAgg333
 z79 := Tryd.sizeOf333
 v79 := Tryd.zeroValue333
 i79 := by kernel_rfl
 t80 := Tryd.underlying334
 a80 := Tryd.isAgg334
 z80 := Tryd.sizeOf334
 v80 := Tryd.zeroValue334
 i80 := by kernel_rfl
 t82 := Tryd.underlying336
 a82 := Tryd.isAgg336
 z82 := Tryd.sizeOf336
 v82 := Tryd.zeroValue336
 i82 := by kernel_rfl }
set_option maxHeartbeats 2000000
set_option maxRecDepth 100000
theorem less_Target (blk off c Bs Bo size : Nat) (W : World) (G : Nat → ByteArray) (hs : W.cell? ⟨Bs, Bo + 1, none⟩ = some (.slice (some ⟨blk, off, none⟩) size c))
 (hc : ∀ t, t < size → W.cell? ⟨blk, off + t * 2, none⟩ = some (.string (G t))) (i j : Nat) (hi : i < size) (hj : j < size) :
 Calls Tryd.prog 90 #[.int .i64 i, .int .i64 j, .pointer (some ⟨Bs, Bo, none⟩)] W fun e w' => e = .returned (.bool (Op.bytesLess (G i).toList (G j).toList)) ∧ ∃ q, w' = W.drewN q := by
 try simp only [Nat.add_zero] at hs
 have ci := hc i hi
 have cj := hc j hj
 go_enter Tryd.func90, Tryd.ntmps90
 go_wp2
 go_quiet (fail)
 go_wp2
 go_ret
 exact ⟨rfl, nq, rfl⟩
noncomputable def svTarget : TypeInfo := (Tryd.prog.info? 51).get (by kernel_rfl)
noncomputable def seTarget : TypeInfo := (Tryd.prog.info? 141).get (by kernel_rfl)
theorem sound_Target : XSound Tryd.prog (fun ro => SortX 80 [(51, 90, 1)] ro) := fun ro base w0 f args A r A' h =>
 sort_sound (ρ := sl6_ren) sl6 svTarget seTarget (el := 141) (by kernel_rfl) (by kernel_rfl) (by kernel_rfl) (by kernel_rfl) (fun _ => by kernel_rfl) (by kernel_rfl) (fun _ => by kernel_rfl) (by kernel_rfl) (by decide)
  (enters_of Tryd.func80 (by kernel_rfl) rfl) (enters_of Tryd.func90 (by kernel_rfl) rfl) (f2 := 183) (f9 := 190) (by kernel_rfl) (by kernel_rfl)
  (fun args W => run_callFunc_extern Tryd.func190 (by kernel_rfl) (by kernel_rfl) (by kernel_rfl) (e := Extern.ReflectliteSwapper.swap false) (by kernel_rfl) args W) less_Target h
end Go.Proofs.YtjlbcofopapajaaDoor.Amu.Sort
