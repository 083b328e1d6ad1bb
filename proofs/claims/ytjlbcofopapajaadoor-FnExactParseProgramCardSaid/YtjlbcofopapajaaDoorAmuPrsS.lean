import Derived.Test.YtjlbcofopapajaaDoorAmPrs
import Derived.Test.YtjlbcofopapajaaDoorProg
import Derived.Ground.NamesProg
import Derived.Shelf.Strconv.AtoiAll
import Derived.WalkKit
import Derived.Tactics
import Derived.Tactics2
namespace Go.Proofs
open Go.Shelf
def at172_ren : Go.Shelf.Ren := ⟨fun | 172 => 151 | 244 => 207 | 245 => 208 | 247 => 235 | 279 => 236 | 280 => 237 | 281 => 238 | 282 => 239 | 287 => 253 | 316 => 254 | 171 => 63 | 205 => 255 | 321 => 259 | 322 => 260 | 243 => 131 | 246 => 180 | 283 => 220 | 284 => 221 | 285 => 222 | 286 => 223 | 129 => 192 | 317 => 243 | 318 => 244 | 319 => 245 | 320 => 246 | 337 => 256 | 338 => 257 | n => n, fun | 9 => 9 | 3 => 3 | 75 => 103 | 76 => 104 | 4 => 4 | 5 => 5 | 167 => 297 | 37 => 69 | 0 => 0 | 85 => 298 | 2 => 2 | 168 => 300 | 53 => 254 | 175 => 308 | 46 => 201 | 210 => 311 | 127 => 190 | 145 => 322 | 143 => 320 | 21 => 21 | 171 => 284 | 173 => 286 | 212 => 304 | 51 => 263 | 20 => 20 | 213 => 305 | 232 => 323 | 233 => 324 | 80 => 106 | n => n, fun | 15 => 3 | 16 => 4 | 17 => 1 | 18 => 7 | 19 => 8 | n => n⟩
theorem at172 : Go.Proofs.LaysC.n172 Tryd.prog at172_ren := {
 mixed := by kernel_rfl
 f129 := Tryd.func192.trans (congrArg some (by kernel_rfl))
 f171 := Tryd.func63.trans (congrArg some (by kernel_rfl))
 f172 := Tryd.func151.trans (congrArg some (by kernel_rfl))
 f205 := Tryd.func255.trans (congrArg some (by kernel_rfl))
 f243 := Tryd.func131.trans (congrArg some (by kernel_rfl))
 f244 := Tryd.func207.trans (congrArg some (by kernel_rfl))
 f245 := Tryd.func208.trans (congrArg some (by kernel_rfl))
 f246 := Tryd.func180.trans (congrArg some (by kernel_rfl))
 f247 := Tryd.func235.trans (congrArg some (by kernel_rfl))
 f279 := Tryd.func236.trans (congrArg some (by kernel_rfl))
 f280 := Tryd.func237.trans (congrArg some (by kernel_rfl))
 f281 := Tryd.func238.trans (congrArg some (by kernel_rfl))
 f282 := Tryd.func239.trans (congrArg some (by kernel_rfl))
 f283 := Tryd.func220.trans (congrArg some (by kernel_rfl))
 f284 := Tryd.func221.trans (congrArg some (by kernel_rfl))
 f285 := Tryd.func222.trans (congrArg some (by kernel_rfl))
 f286 := Tryd.func223.trans (congrArg some (by kernel_rfl))
 f287 := Tryd.func253.trans (congrArg some (by kernel_rfl))
 f316 := Tryd.func254.trans (congrArg some (by kernel_rfl))
 f317 := Tryd.func243.trans (congrArg some (by kernel_rfl))
 f318 := Tryd.func244.trans (congrArg some (by kernel_rfl))
 f319 := Tryd.func245.trans (congrArg some (by kernel_rfl))
 f320 := Tryd.func246.trans (congrArg some (by kernel_rfl))
 f321 := Tryd.func259.trans (congrArg some (by kernel_rfl))
 f322 := Tryd.func260.trans (congrArg some (by kernel_rfl))
 f337 := Tryd.func256.trans (congrArg some (by kernel_rfl))
 f338 := Tryd.func257.trans (congrArg some (by kernel_rfl))
 t0 := Tryd.underlying0
 a0 := Tryd.isAgg0
 z0 := Tryd.sizeOf0
 v0 := Tryd.zeroValue0
 t2 := Tryd.underlying2
 a2 := Tryd.isAgg2
 z2 := Tryd.sizeOf2
 v2 := Tryd.zeroValue2
 t3 := Tryd.underlying3
 a3 := Tryd.isAgg3
 z3 := Tryd.sizeOf3
 v3 := Tryd.zeroValue3
 t4 := Tryd.underlying4
 a4 := Tryd.isAgg4
 z4 := Tryd.sizeOf4
 v4 := Tryd.zeroValue4
 t5 := Tryd.underlying5
 a5 := Tryd.isAgg5
 z5 := Tryd.sizeOf5
 v5 := Tryd.zeroValue5
 t9 := Tryd.underlying9
 a9 := Tryd.isAgg9
 z9 := Tryd.sizeOf9
 v9 := Tryd.zeroValue9
 t20 := Tryd.underlying20
 a20 := Tryd.isAgg20
 z20 := Tryd.sizeOf20
 v20 := Tryd.zeroValue20
 t21 := Tryd.underlying21
 a21 := Tryd.isAgg21
 z21 := Tryd.sizeOf21
 v21 := Tryd.zeroValue21
 t37 := Tryd.underlying69
 a37 := Tryd.isAgg69
 z37 := Tryd.sizeOf69
 v37 := Tryd.zeroValue69
 t46 := Tryd.underlying201
 a46 := Tryd.isAgg201
 z46 := Tryd.sizeOf201
 v46 := Tryd.zeroValue201
 t51 := Tryd.underlying263
 a51 := Tryd.isAgg263
 z51 := Tryd.sizeOf263
 v51 := Tryd.zeroValue263
 t53 := Tryd.underlying254
 a53 := Tryd.isAgg254
 z53 := Tryd.sizeOf254
 v53 := Tryd.zeroValue254
 t75 := Tryd.underlying103
 a75 := Tryd.isAgg103
 z75 := Tryd.sizeOf103
 v75 := Tryd.zeroValue103
 t76 := Tryd.underlying104
 a76 := Tryd.isAgg104
 z76 := Tryd.sizeOf104
 v76 := Tryd.zeroValue104
 t85 := Tryd.underlying298
 a85 := Tryd.isAgg298
 z85 := Tryd.sizeOf298
 v85 := Tryd.zeroValue298
 t127 := Tryd.underlying190
 a127 := Tryd.isAgg190
 z127 := Tryd.sizeOf190
 v127 := Tryd.zeroValue190
 t143 := Tryd.underlying320
 a143 := Tryd.isAgg320
 z143 := Tryd.sizeOf320
 v143 := Tryd.zeroValue320
 t145 := Tryd.underlying322
 a145 := Tryd.isAgg322
 z145 := Tryd.sizeOf322
 v145 := Tryd.zeroValue322
 t167 := Tryd.underlying297
 a167 := Tryd.isAgg297
 z167 := Tryd.sizeOf297
 v167 := Tryd.zeroValue297
 t168 := Tryd.underlying300
 a168 := Tryd.isAgg300
 z168 := Tryd.sizeOf300
 v168 := Tryd.zeroValue300
 t171 := Tryd.underlying284
 a171 := Tryd.isAgg284
 z171 := Tryd.sizeOf284
 v171 := Tryd.zeroValue284
 t173 := Tryd.underlying286
 a173 := Tryd.isAgg286
 z173 := Tryd.sizeOf286
 v173 := Tryd.zeroValue286
 t175 := Tryd.underlying308
 a175 := Tryd.isAgg308
 z175 := Tryd.sizeOf308
 v175 := Tryd.zeroValue308
 t210 := Tryd.underlying311
 a210 := Tryd.isAgg311
 z210 := Tryd.sizeOf311
 v210 := Tryd.zeroValue311
 t212 := Tryd.underlying304
 a212 := Tryd.isAgg304
 z212 := Tryd.sizeOf304
 v212 := Tryd.zeroValue304
 t213 := Tryd.underlying305
 a213 := Tryd.isAgg305
 z213 := Tryd.sizeOf305
 t232 := Tryd.underlying323
 a232 := Tryd.isAgg323
 z232 := Tryd.sizeOf323
 v232 := Tryd.zeroValue323
 t233 := Tryd.underlying324
 a233 := Tryd.isAgg324
 z233 := Tryd.sizeOf324
 v233 := Tryd.zeroValue324
 g15 := by kernel_rfl
 g16 := by kernel_rfl
 g17 := by kernel_rfl
 g18 := by kernel_rfl
 g19 := by kernel_rfl
 t80 := Tryd.underlying106
 a80 := Tryd.isAgg106
 z80 := Tryd.sizeOf106
 v80 := Tryd.zeroValue106
 i0 := by kernel_rfl
 i2 := by kernel_rfl
 i3 := by kernel_rfl
 i4 := by kernel_rfl
 i5 := by kernel_rfl
 i9 := by kernel_rfl
 i20 := by kernel_rfl
 i21 := by kernel_rfl
 i37 := by kernel_rfl
 i46 := by kernel_rfl
 i51 := by kernel_rfl
 i53 := by kernel_rfl
 i75 := by kernel_rfl
 i76 := by kernel_rfl
 i80 := by kernel_rfl
 i85 := by kernel_rfl
 i127 := by kernel_rfl
 i143 := by kernel_rfl
 i145 := by kernel_rfl
 i167 := by kernel_rfl
 i168 := by kernel_rfl
 i171 := by kernel_rfl
 i173 := by kernel_rfl
 i175 := by kernel_rfl
 i210 := by kernel_rfl
 i212 := by kernel_rfl
 i232 := by kernel_rfl
 i233 := by kernel_rfl
 m15 := by kernel_rfl
 m16 := by kernel_rfl
 m17 := by kernel_rfl
 m18 := by kernel_rfl
 m19 := by kernel_rfl
 c0 := by kernel_rfl
 c2 := by kernel_rfl
 c3 := by kernel_rfl
 c4 := by kernel_rfl
 c5 := by kernel_rfl
 c9 := by kernel_rfl
 c20 := by kernel_rfl
 c21 := by kernel_rfl
 c37 := by kernel_rfl
 c46 := by kernel_rfl
 c51 := by kernel_rfl
 c53 := by kernel_rfl
 c75 := by kernel_rfl
 c76 := by kernel_rfl
 c80 := by kernel_rfl
 c85 := by kernel_rfl
 c127 := by kernel_rfl
 c143 := by kernel_rfl
 c145 := by kernel_rfl
 c167 := by kernel_rfl
 c168 := by kernel_rfl
 c171 := by kernel_rfl
 c173 := by kernel_rfl
 c175 := by kernel_rfl
 c210 := by kernel_rfl
 c212 := by kernel_rfl
 c213 := by kernel_rfl
 c232 := by kernel_rfl
 c233 := by kernel_rfl }
end Go.Proofs
namespace Go.Proofs.YtjlbcofopapajaaDoor.Amu.PrsS
open Go Go.AM Go.Proofs Go.RowKit
set_option linter.all false
set_option maxRecDepth 100000
theorem bytesBelow (w : World) (t : TypeId) (s : ByteArray) : Below w.heap.size w (Lib.bytesWorld w t s) := ⟨rfl, rfl, rfl, by rw [Lib.bytesWorld_size]; omega, fun j hj => Lib.bytesWorld_at_old w t s j hj⟩
theorem okC (s : ByteArray) (v : Int) (w : World) (hs : s.size ≤ 281474976710656) (h : Lib.atoiAll (ls s) = .ok v) :
 Calls Tryd.prog 151 #[.string s] w fun e w' => e = .returned (.tuple #[.int .i64 v, .nilIface]) ∧ (w' = w ∨ ∃ t, w' = Lib.bytesWorld w 5 t) := Any.strconv_Atoi_ok at172 s (Nat.le_trans hs (by decide)) v h w
theorem synC (s : ByteArray) (hlim : s.size ≤ 281474976710656) (h : NoNum s.data.toList) (ev : Value) (w : World) (hv : w.cell? ⟨3, 0, none⟩ = some ev) (hev : ev = .nilIface ∨ ∃ te pe, ev = .iface te pe) :
 Calls Tryd.prog 151 #[.string s] w fun e w' => ∃ N, e = .returned (.tuple #[.int .i64 (0), .iface 300 (.pointer (some ⟨N, 0, none⟩))]) ∧ w.heap.size ≤ N ∧ w'.heap[N]? = some (.cells #[.string ⟨#[65, 116, 111, 105]⟩, .string s, ev] 311 (0, 0)) ∧ Below w.heap.size w w' := Any.strconv_Atoi_syntax at172 s hlim (by cases hq : Lib.atoiAll s.data.toList with | ok v => exact absurd hq (h.1 v) | range => exact absurd hq h.2 | _ => rfl) ev w hv hev
theorem ranC (s : ByteArray) (hlim : s.size ≤ 281474976710656) (h : Lib.atoiAll s.data.toList = .range) (ev : Value) (w : World) (hv : w.cell? ⟨4, 0, none⟩ = some ev) (hev : ev = .nilIface ∨ ∃ te pe, ev = .iface te pe) :
 Calls Tryd.prog 151 #[.string s] w fun e w' => ∃ N, e = .returned (.tuple #[.int .i64 (Lib.atoiSat s.data.toList), .iface 300 (.pointer (some ⟨N, 0, none⟩))]) ∧ w.heap.size ≤ N ∧ w'.heap[N]? = some (.cells #[.string ⟨#[65, 116, 111, 105]⟩, .string s, ev] 311 (0, 0)) ∧ Below w.heap.size w w' := Any.strconv_Atoi_range at172 s hlim h ev w hv hev
theorem sound : XSound Tryd.prog (fun ro => PrsX 151 232 252 300 3 4 ro) := fun ro base w0 f args A r A' h => by
 refine prs_sound (of_decide_eq_true (by kernel_rfl)) (of_decide_eq_true (by kernel_rfl)) (enters_of Tryd.func151 (by kernel_rfl) rfl) ?_ ?_ ?_ ?_ h
 ·intro s v w hs h
  refine (okC s v w hs h).mono ?_
  rintro e w' ⟨rfl, rfl | ⟨t, rfl⟩⟩
  ·exact ⟨rfl, Below.refl _ _⟩
  ·exact ⟨rfl, bytesBelow _ _ _⟩
 ·intro s n w ev ew hs h h1 h2 h3 h4
  rcases h with ⟨h, rfl⟩ | ⟨h, rfl⟩
  ·refine (synC s hs h ev w h1 h2).mono ?_
   rintro e w' ⟨N, rfl, _, _, hB⟩
   exact ⟨N, rfl, hB⟩
  ·refine (ranC s hs h ew w h3 h4).mono ?_
   rintro e w' ⟨N, rfl, _, _, hB⟩
   exact ⟨N, rfl, hB⟩
 ·intro s c w
  rw [run_callFunc_extern Tryd.func232 (by kernel_rfl) (by kernel_rfl) (by kernel_rfl) (e := Extern.BytealgCount.count) (by kernel_rfl), Lib.run_countString]
  rfl
 ·intro s c w
  rw [run_callFunc_extern Tryd.func252 (by kernel_rfl) (by kernel_rfl) (by kernel_rfl) (e := Extern.BytealgIndexByte.indexByte) (by kernel_rfl), Lib.run_indexByteString]
  rfl
end Go.Proofs.YtjlbcofopapajaaDoor.Amu.PrsS
