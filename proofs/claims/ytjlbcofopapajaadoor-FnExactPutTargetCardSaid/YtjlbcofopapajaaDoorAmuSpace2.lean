import Derived.Test.YtjlbcofopapajaaDoorAmuTy
import Derived.Test.YtjlbcofopapajaaDoorAmTX
import Derived.Test.YtjlbcofopapajaaDoorAmuStore
namespace Go.Proofs.YtjlbcofopapajaaDoor.Amu.Space2
open Go Go.AM Go.Proofs
set_option linter.all false
set_option linter.defProp false
open Ty
variable {ro : Nat} {X : FuncId → List Value → AH → ARes → AH → Prop}
set_option maxRecDepth 10000
def St (A A' : AH) (s : Sl) (n i : Nat) (nm tx : ByteArray) (fl : List Value) (es : SMap) (e : Env) (H : AH) : Prop :=
 e 1 = .pointer (some ⟨A.size, 0, none⟩) ∧ e 3 = .pointer (some ⟨A.size + 1, 0, none⟩) ∧ e 4 = .map (some (A.size + 2)) ∧ e 21 = s.v ∧ e 22 = .int .i64 n ∧ e 23 = .int .i64 i ∧ e 5 = .int .i64 i ∧ e 6 = .pointer (some ⟨A'.size, 0, none⟩) ∧
   ExtX [A.size + 1, A.size + 2] A' H ∧ A'.size < H.size ∧ H.get A'.size = .cells [.string nm, .string tx] 2 ∧ H.get (A.size + 1) = .cells fl 8 ∧ H.get (A.size + 2) = .map (mp es)
def St2 (A A' : AH) (s : Sl) (n i : Nat) (nm : ByteArray) (tx : Value) (fl : List Value) (es : SMap) (e : Env) (H : AH) : Prop :=
 e 1 = .pointer (some ⟨A.size, 0, none⟩) ∧ e 3 = .pointer (some ⟨A.size + 1, 0, none⟩) ∧ e 4 = .map (some (A.size + 2)) ∧ e 70 = s.v ∧ e 71 = .int .i64 n ∧ e 72 = .int .i64 i ∧ e 7 = .int .i64 i ∧ e 8 = .pointer (some ⟨A'.size, 0, none⟩) ∧
   ExtX [A.size + 1, A.size + 2] A' H ∧ A'.size < H.size ∧ H.get A'.size = .cells [.string nm, tx] 2 ∧ H.get (A.size + 1) = .cells fl 8 ∧ H.get (A.size + 2) = .map (mp es)
def fl6 (b2 b3 b4 b5 b6 b7 : Bool) : List Value := [.bool false, .bool false, .bool b2, .bool b3, .bool b4, .bool b5, .bool b6, .bool b7]
theorem implCheck_a (A : AH) (hro : ro ≤ A.size) (hT : Tab 0 A) (s1 s2 : Sl) (x : TSpace) (F1 F2 : List Nat) (h1 : SlR A s1 x.1 F1) (h2 : SlR A s2 x.2 F2) (hl1' : x.1.length < 1152921504606846976) (hl2' : x.2.length < 1152921504606846976) :
 ACalls Tryd.prog ro X 76 [.agg #[s1.v, s2.v]] A (fun r A' => r = .ret (.int .i64 (spaceCode x)) ∧ Ext A A') := by
 refine ACalls.enterQ (rs := [.tmp 2]) Tryd.func76 rfl (by kernel_rfl) rfl ?_
 have hl1 := h1.len
 have hl2 := h2.len
 by_cases q1 : (200 : Int) < x.1.length + x.2.length
 ·simp (maxSteps := 2000000) (disch := first | omega | (simp only [AH.zN, AH.zP] <;> omega) | fail) only [amR Tryd.prog ro X, amS, seval, reduceCtorEq, ty3, ty4, ty9, ty27, ty29, ty50, ty51, ty53, ty129, ty141, ty161, ty211, hl1, hl2, q1]
  exact ⟨by rw [spaceCode, if_pos (by omega)], (by ((repeat' (first | exact Ext.refl _ | assumption | refine Ext.trans ?_ (Ext.new _ _) | refine Ext.put ?_ ?_ _ | refine Ext.trans ?_ (by assumption))) <;> (first | omega | (simp only [AH.zN, AH.zP] <;> omega))))⟩
 have q1' : ¬ 200 < x.1.length + x.2.length := by omega
 simp (maxSteps := 2000000) (disch := first | omega | (simp only [AH.zN, AH.zP] <;> omega) | fail) only [amR Tryd.prog ro X, amS, seval, reduceCtorEq, ty3, ty4, ty9, ty27, ty29, ty50, ty51, ty53, ty129, ty141, ty161, ty211, hl1, hl2, q1]
 generalize hA0 : ((A.new _).new _).new _ = A0
 have hE0 : Ext (A.new (.cells [s1.v, s2.v] 2)) A0 := by rw [← hA0]; exact (Ext.new _ _).trans (Ext.new _ _)
 have hz0 : A0.size = A.size + 3 := by rw [← hA0]; rfl
 have gf0 : A0.get (A.size + 1) = .cells (fl6 false false false false false false) 8 := by rw [← hA0, AH.gNo (by simp only [AH.zN]; omega)]; exact AH.gNs _ _
 have gm0 : A0.get (A.size + 2) = .map (mp []) := by rw [← hA0]; exact AH.gNs _ _
 have gb0 : A0.get A.size = .cells [s1.v, s2.v] 2 := by rw [hE0.get _ (by simp only [AH.zN]; omega)]; exact AH.gNs _ _
 have hEA0 : Ext A A0 := (Ext.new _ _).trans hE0
 refine Wp.loopC (fun k e A' => ExtX [A.size + 1, A.size + 2] A0 A' ∧ e 1 = .pointer (some ⟨A.size, 0, none⟩) ∧ e 3 = .pointer (some ⟨A.size + 1, 0, none⟩) ∧ e 4 = .map (some (A.size + 2)) ∧ e 21 = s1.v ∧ e 22 = .int .i64 x.1.length ∧
  ∃ i : Nat, i ≤ x.1.length ∧ k = x.1.length - i ∧ e 23 = .int .i64 i ∧ ∃ (b2 b3 b6 : Bool) (es : SMap), A'.get (A.size + 1) = .cells (fl6 b2 b3 false false b6 false) 8 ∧ A'.get (A.size + 2) = .map (mp es) ∧
    (b2 = false ↔ ∀ y ∈ x.1.take i, NameOk y.1) ∧ (b3 = false ↔ Asc ((x.1.take i).map (·.1))) ∧ (b6 = false ↔ ∀ y ∈ x.1.take i, y.2.size ≤ 2000) ∧ ∀ n, lk es n = if ∀ y ∈ x.1.take i, y.1 ≠ n then none else some (.bool true)) (x.1.length - 0) ?_ ?_
 ·simp (disch := first | omega | fail) only [amV, amH, amQ, amL, amN Tryd.prog, amS, seval, reduceCtorEq, ty3, ty4, ty9, ty27, ty29, ty50, ty51, ty53, ty129, ty141, ty161, ty211, hl1]
  exact ⟨ExtX.refl _ _, 0, by omega, rfl, rfl, false, false, false, [], gf0, gm0, by simp, by simp [Asc], by simp, fun n => by simp [lk]⟩
 ·rintro k e A' ⟨hX, g1, g3, g4, g21, g22, i, hi, rfl, g23, b2, b3, b6, es, gf, gm, i2, i3, i6, hlk⟩
  have hz := hX.size
  have gb := (hX.get A.size (by omega) (by simp)).trans gb0
  have hs1 : SlR A' s1 x.1 F1 := (h1.ext hEA0).extx hX (fun b hb => by have := h1.bound b hb; simp; omega)
  simp (disch := first | omega | fail) only [amR Tryd.prog ro X, amS, seval, reduceCtorEq, ty3, ty4, ty9, ty27, ty29, ty50, ty51, ty53, ty129, ty141, ty161, ty211, g22, g23]
  refine CondB.split (fun h => ?_) (fun h => ?_)
  ·have hil : i < x.1.length := by simpa using h
   obtain ⟨c, n1, b1, i1, c1, r0, r1, rr, z1, z2⟩ := hs1.source hil
   have rr' : rowK (s1.o + i * 2) 2 (A'.get s1.b) = some [.string x.1[i].1, .string x.1[i].2] := by rw [c1]; exact rr
   have st2 := all_take_succ (p := fun y : TSource => NameOk y.1) hil
   have st3 := ascStep (·.1) hil
   have st6 := all_take_succ (p := fun y : TSource => y.2.size ≤ 2000) hil
   have stk : ∀ n, (∀ y ∈ x.1.take (i + 1), y.1 ≠ n) ↔ (∀ y ∈ x.1.take i, y.1 ≠ n) ∧ x.1[i].1 ≠ n := fun n => all_take_succ (p := fun y : TSource => y.1 ≠ n) hil
   refine skipThen ?_
   refine seqBlock ?_
   refine RunC.cut (St A A' s1 x.1.length i x.1[i].1 x.1[i].2 (fl6 b2 b3 false false b6 false) es) ?_ ?_
   ·simp (disch := first | omega | fail) only [amR Tryd.prog ro X, amS, seval, reduceCtorEq, ty3, ty4, ty9, ty27, ty29, ty50, ty51, ty53, ty129, ty141, ty161, ty211, g21, g22, g23, n1, rr']
    refine ⟨g1, g3, g4, g21, g22, g23, rfl, rfl, ?_, by simp only [AH.zN, AH.zP]; omega, AH.gPs _ _ _, ?_, ?_⟩
    ·exact ⟨by simp only [AH.zN, AH.zP]; omega, fun b hb _ => by rw [AH.gPo (by omega), AH.gNo (by omega)]⟩
    ·rw [AH.gPo (by omega), AH.gNo (by omega)]; exact gf
    ·rw [AH.gPo (by omega), AH.gNo (by omega)]; exact gm
   rintro e H ⟨g1, g3, g4, g21, g22, g23, g5, g6, hH, hHz, gs, gf, gm⟩
   refine RunC.cut (St A A' s1 x.1.length i x.1[i].1 x.1[i].2 (fl6 (b2 || !decide (NameOk x.1[i].1)) b3 false false b6 false) es) ?_ ?_
   ·cases b2
    ·simp (disch := first | omega | fail) only [amR Tryd.prog ro X, amS, seval, reduceCtorEq, ty3, ty4, ty9, ty27, ty29, ty50, ty51, ty53, ty129, ty141, ty161, ty211, g3, g6, gf, gs, arrAddr, fl6]
     refine (Store.impl.isName_a _ x.1[i].1).mono ?_
     rintro r H2 ⟨rfl, rfl⟩
     simp (disch := first | omega | fail) only [amR Tryd.prog ro X, amS, seval, reduceCtorEq, ty3, ty4, ty9, ty27, ty29, ty50, ty51, ty53, ty129, ty141, ty161, ty211, g3, g6, gf, gs, arrAddr, fl6]
     refine ⟨g1, g3, g4, g21, g22, g23, g5, g6, hH.put (by simp) _, by simp only [AH.zP]; omega, ?_, AH.gPs _ _ _, ?_⟩
     ·rw [AH.gPo (by omega)]; exact gs
     ·rw [AH.gPo (by omega)]; exact gm
    ·simp (disch := first | omega | fail) only [amR Tryd.prog ro X, amS, seval, reduceCtorEq, ty3, ty4, ty9, ty27, ty29, ty50, ty51, ty53, ty129, ty141, ty161, ty211, g3, g6, gf, gs, arrAddr, fl6]
     refine ⟨g1, g3, g4, g21, g22, g23, g5, g6, hH.put (by simp) _, by simp only [AH.zP]; omega, ?_, AH.gPs _ _ _, ?_⟩
     ·rw [AH.gPo (by omega)]; exact gs
     ·rw [AH.gPo (by omega)]; exact gm
   generalize hv2 : (b2 || !decide (NameOk x.1[i].1)) = v2
   rintro e H ⟨g1, g3, g4, g21, g22, g23, g5, g6, hH, hHz, gs, gf, gm⟩
   have gbH := (hH.get A.size (by omega) (by simp)).trans gb
   have hsH : SlR H s1 x.1 F1 := hs1.extx hH (fun b hb => by have := h1.bound b hb; simp; omega)
   refine RunC.cut (St A A' s1 x.1.length i x.1[i].1 x.1[i].2 (fl6 v2 (b3 || (decide (0 < (i : Int)) && !decide (slt (x.1[i - 1]'(by omega)).1 x.1[i].1))) false false b6 false) es) ?_ ?_
   ·cases b3
    ·by_cases hi0 : (0 : Int) < i
     ·obtain ⟨c', n2, b2', i2', c2, s0, _, rr2, _, _⟩ := hsH.source (i := i - 1) (by omega)
      have hi1 : ((i : Int) - 1).toNat = i - 1 := by omega
      simp (disch := first | omega | fail) only [amR Tryd.prog ro X, amS, seval, reduceCtorEq, ty3, ty4, ty9, ty27, ty29, ty50, ty51, ty53, ty129, ty141, ty161, ty211]
      refine WpH (H.size) [] (by kernel_rfl) (.inl (by kernel_rfl)) ?_
      simp (disch := first | omega | fail) only [amX Tryd.prog ro X, amR Tryd.prog ro X, amS, seval, reduceCtorEq, ty3, ty4, ty9, ty27, ty29, ty50, ty51, ty53, ty129, ty141, ty161, ty211, g1, g3, g5, g6, gf, gs, gbH, arrAddr, fl6, hi0, hi1, n2, c2, s0, hl1, sle_not]
      refine ⟨g1, g3, g4, g21, g22, g23, g5, g6, hH.put (by simp) _, by simp only [AH.zP]; omega, ?_, AH.gPs _ _ _, ?_⟩
      ·rw [AH.gPo (by omega)]; exact gs
      ·rw [AH.gPo (by omega)]; exact gm
     ·simp (disch := first | omega | fail) only [amR Tryd.prog ro X, amS, seval, reduceCtorEq, ty3, ty4, ty9, ty27, ty29, ty50, ty51, ty53, ty129, ty141, ty161, ty211]
      refine WpH (H.size) [] (by kernel_rfl) (.inl (by kernel_rfl)) ?_
      simp (disch := first | omega | fail) only [amX Tryd.prog ro X, amR Tryd.prog ro X, amS, seval, reduceCtorEq, ty3, ty4, ty9, ty27, ty29, ty50, ty51, ty53, ty129, ty141, ty161, ty211, g1, g3, g5, g6, gf, gs, gbH, arrAddr, fl6, hi0]
      refine ⟨g1, g3, g4, g21, g22, g23, g5, g6, hH.put (by simp) _, by simp only [AH.zP]; omega, ?_, AH.gPs _ _ _, ?_⟩
      ·rw [AH.gPo (by omega)]; exact gs
      ·rw [AH.gPo (by omega)]; exact gm
    ·simp (disch := first | omega | fail) only [amR Tryd.prog ro X, amS, seval, reduceCtorEq, ty3, ty4, ty9, ty27, ty29, ty50, ty51, ty53, ty129, ty141, ty161, ty211]
     refine WpH (H.size) [] (by kernel_rfl) (.inl (by kernel_rfl)) ?_
     simp (disch := first | omega | fail) only [amX Tryd.prog ro X, amR Tryd.prog ro X, amS, seval, reduceCtorEq, ty3, ty4, ty9, ty27, ty29, ty50, ty51, ty53, ty129, ty141, ty161, ty211, g1, g3, g5, g6, gf, gs, gbH, arrAddr, fl6]
     refine ⟨g1, g3, g4, g21, g22, g23, g5, g6, hH.put (by simp) _, by simp only [AH.zP]; omega, ?_, AH.gPs _ _ _, ?_⟩
     ·rw [AH.gPo (by omega)]; exact gs
     ·rw [AH.gPo (by omega)]; exact gm
   generalize hv3 : (b3 || (decide (0 < (i : Int)) && !decide (slt (x.1[i - 1]'(by omega)).1 x.1[i].1))) = v3
   rintro e H ⟨g1, g3, g4, g21, g22, g23, g5, g6, hH, hHz, gs, gf, gm⟩
   refine RunC.cut (St A A' s1 x.1.length i x.1[i].1 x.1[i].2 (fl6 v2 v3 false false (b6 || decide ((2000 : Int) < x.1[i].2.size)) false) es) ?_ ?_
   ·cases b6
    ·simp (disch := first | omega | fail) only [amR Tryd.prog ro X, amS, seval, reduceCtorEq, ty3, ty4, ty9, ty27, ty29, ty50, ty51, ty53, ty129, ty141, ty161, ty211, g1, g3, g5, g6, gf, gs, arrAddr, fl6]
     refine ⟨g1, g3, g4, g21, g22, g23, g5, g6, hH.put (by simp) _, by simp only [AH.zP]; omega, ?_, AH.gPs _ _ _, ?_⟩
     ·rw [AH.gPo (by omega)]; exact gs
     ·rw [AH.gPo (by omega)]; exact gm
    ·simp (disch := first | omega | fail) only [amR Tryd.prog ro X, amS, seval, reduceCtorEq, ty3, ty4, ty9, ty27, ty29, ty50, ty51, ty53, ty129, ty141, ty161, ty211, g1, g3, g5, g6, gf, gs, arrAddr, fl6]
     refine ⟨g1, g3, g4, g21, g22, g23, g5, g6, hH.put (by simp) _, by simp only [AH.zP]; omega, ?_, AH.gPs _ _ _, ?_⟩
     ·rw [AH.gPo (by omega)]; exact gs
     ·rw [AH.gPo (by omega)]; exact gm
   generalize hv6 : (b6 || decide ((2000 : Int) < x.1[i].2.size)) = v6
   rintro e H ⟨g1, g3, g4, g21, g22, g23, g5, g6, hH, hHz, gs, gf, gm⟩
   have hset := mset (P := Tryd.prog) (ro := ro) (t := 161) (e := 4) (by simp only [ty161]) gm (by omega) x.1[i].1 (v := .bool true) rfl
   simp (disch := first | omega | fail) only [amR Tryd.prog ro X, amS, seval, reduceCtorEq, ty3, ty4, ty9, ty27, ty29, ty50, ty51, ty53, ty129, ty141, ty161, ty211, g1, g3, g4, g6, g21, g22, g23, gs, hset]
   refine ⟨x.1.length - (i + 1), by omega, ⟨by simp only [AH.zP]; have := hH.size; omega, fun b hb hn => by rw [AH.gPo (by simp at hn; omega)]; exact (hH.get b (by omega) hn).trans (hX.get b hb hn)⟩, i + 1, by omega, rfl, by simp, v2, v3, v6, _, gf, rfl, ?_, ?_, ?_, fun n => ?_⟩
   ·rw [st2, ← i2, ← hv2]; cases b2 <;> simp
   ·rw [st3, ← i3, ← hv3]
    by_cases hi0 : i = 0
    ·subst hi0; cases b3 <;> simp
    ·have hi1 : (0 : Int) < i := by omega
     have hi2 : 0 < i := by omega
     cases b3 <;> simp [hi0, hi2]
   ·rw [st6, ← i6, ← hv6]
    cases b6 <;> simp
    omega
   ·rw [lk_kset, hlk]
    by_cases hn : n = x.1[i].1
    ·rw [if_pos hn, if_neg]
     exact fun h => ((stk n).1 h).2 hn.symm
    ·rw [if_neg hn]
     have e : (∀ y ∈ x.1.take (i + 1), y.1 ≠ n) ↔ ∀ y ∈ x.1.take i, y.1 ≠ n := ⟨fun h => ((stk n).1 h).1, fun h => (stk n).2 ⟨h, fun e => hn e.symm⟩⟩
     by_cases hq : ∀ y ∈ x.1.take i, y.1 ≠ n
     ·rw [if_pos hq, if_pos (e.2 hq)]
     ·rw [if_neg hq, if_neg (fun h => hq (e.1 h))]
  ·have hil : i = x.1.length := by simp at h; omega
   subst hil
   rw [List.take_length] at i2 i3 i6 hlk
   simp (disch := first | omega | fail) only [amR Tryd.prog ro X, amS, seval, reduceCtorEq, ty3, ty4, ty9, ty27, ty29, ty50, ty51, ty53, ty129, ty141, ty161, ty211, g1, gb, hl2]
   refine Wp.loopC (fun k e A' => ExtX [A.size + 1, A.size + 2] A0 A' ∧ e 1 = .pointer (some ⟨A.size, 0, none⟩) ∧ e 3 = .pointer (some ⟨A.size + 1, 0, none⟩) ∧ e 4 = .map (some (A.size + 2)) ∧ e 70 = s2.v ∧ e 71 = .int .i64 x.2.length ∧
    ∃ i : Nat, i ≤ x.2.length ∧ k = x.2.length - i ∧ e 72 = .int .i64 i ∧ ∃ c2 c4 c5 c7 : Bool, A'.get (A.size + 1) = .cells (fl6 c2 b3 c4 c5 b6 c7) 8 ∧ A'.get (A.size + 2) = .map (mp es) ∧
      (c2 = false ↔ (∀ y ∈ x.1, NameOk y.1) ∧ ∀ y ∈ x.2.take i, NameOk y.1) ∧ (c4 = false ↔ Asc ((x.2.take i).map (·.1))) ∧ (c5 = false ↔ ∀ y ∈ x.2.take i, ∀ z ∈ x.1, z.1 ≠ y.1) ∧ (c7 = false ↔ ∀ y ∈ x.2.take i, ProgOk y.2)) (x.2.length - 0) ?_ ?_
   ·simp (disch := first | omega | fail) only [amV, amH, amQ, amL, amN Tryd.prog, amS, seval, reduceCtorEq, ty3, ty4, ty9, ty27, ty29, ty50, ty51, ty53, ty129, ty141, ty161, ty211, hl2, g1, g3, g4]
    exact ⟨hX, 0, by omega, rfl, rfl, b2, false, false, false, gf, gm, by rw [i2]; simp, by simp [Asc], by simp, by simp⟩
   ·clear hX gf gm i2 hz hs1 gb
    rintro k e A' ⟨hX, g1, g3, g4, g70, g71, i, hi, rfl, g72, c2, c4, c5, c7, gf, gm, i2, i4, i5, i7⟩
    have hz := hX.size
    have gb := (hX.get A.size (by omega) (by simp)).trans gb0
    have hs2 : SlR A' s2 x.2 F2 := (h2.ext hEA0).extx hX (fun b hb => by have := h2.bound b hb; simp; omega)
    have hEA : Ext A A' := ⟨by have := hEA0.size; omega, fun b hb => (hX.get b (by omega) (by simp; omega)).trans (hEA0.get b hb)⟩
    simp (disch := first | omega | fail) only [amR Tryd.prog ro X, amS, seval, reduceCtorEq, ty3, ty4, ty9, ty27, ty29, ty50, ty51, ty53, ty129, ty141, ty161, ty211, g71, g72]
    refine CondB.split (fun h => ?_) (fun h => ?_)
    ·have hil : i < x.2.length := by simpa using h
     obtain ⟨c, t, G, n1, b1, i1, c1, r0, r1, rr, z1, ht, hG, _⟩ := hs2.target hil
     have rr' : rowK (s2.o + i * 2) 2 (A'.get s2.b) = some [.string x.2[i].1, t.v] := by rw [c1]; exact rr
     have st2 := all_take_succ (p := fun y : TTarget => NameOk y.1) hil
     have st4 := ascStep (·.1) hil
     have st5 := all_take_succ (p := fun y : TTarget => ∀ z ∈ x.1, z.1 ≠ y.1) hil
     have st7 := all_take_succ (p := fun y : TTarget => ProgOk y.2) hil
     refine skipThen ?_
     refine seqBlock ?_
     refine RunC.cut (St2 A A' s2 x.2.length i x.2[i].1 t.v (fl6 c2 b3 c4 c5 b6 c7) es) ?_ ?_
     ·simp (disch := first | omega | fail) only [amR Tryd.prog ro X, amS, seval, reduceCtorEq, ty3, ty4, ty9, ty27, ty29, ty50, ty51, ty53, ty129, ty141, ty161, ty211, g70, g71, g72, n1, rr']
      refine ⟨g1, g3, g4, g70, g71, g72, rfl, rfl, ?_, by simp only [AH.zN, AH.zP]; omega, AH.gPs _ _ _, ?_, ?_⟩
      ·exact ⟨by simp only [AH.zN, AH.zP]; omega, fun b hb _ => by rw [AH.gPo (by omega), AH.gNo (by omega)]⟩
      ·rw [AH.gPo (by omega), AH.gNo (by omega)]; exact gf
      ·rw [AH.gPo (by omega), AH.gNo (by omega)]; exact gm
     rintro e H ⟨g1, g3, g4, g70, g71, g72, g7, g8, hH, hHz, gs, gf, gm⟩
     refine RunC.cut (St2 A A' s2 x.2.length i x.2[i].1 t.v (fl6 (c2 || !decide (NameOk x.2[i].1)) b3 c4 c5 b6 c7) es) ?_ ?_
     ·cases c2
      ·simp (disch := first | omega | fail) only [amR Tryd.prog ro X, amS, seval, reduceCtorEq, ty3, ty4, ty9, ty27, ty29, ty50, ty51, ty53, ty129, ty141, ty161, ty211, g3, g8, gf, gs, arrAddr, fl6]
       refine (Store.impl.isName_a _ x.2[i].1).mono ?_
       rintro r H2 ⟨rfl, rfl⟩
       simp (disch := first | omega | fail) only [amR Tryd.prog ro X, amS, seval, reduceCtorEq, ty3, ty4, ty9, ty27, ty29, ty50, ty51, ty53, ty129, ty141, ty161, ty211, g3, g8, gf, gs, arrAddr, fl6]
       refine ⟨g1, g3, g4, g70, g71, g72, g7, g8, hH.put (by simp) _, by simp only [AH.zP]; omega, ?_, AH.gPs _ _ _, ?_⟩
       ·rw [AH.gPo (by omega)]; exact gs
       ·rw [AH.gPo (by omega)]; exact gm
      ·simp (disch := first | omega | fail) only [amR Tryd.prog ro X, amS, seval, reduceCtorEq, ty3, ty4, ty9, ty27, ty29, ty50, ty51, ty53, ty129, ty141, ty161, ty211, g3, g8, gf, gs, arrAddr, fl6]
       refine ⟨g1, g3, g4, g70, g71, g72, g7, g8, hH.put (by simp) _, by simp only [AH.zP]; omega, ?_, AH.gPs _ _ _, ?_⟩
       ·rw [AH.gPo (by omega)]; exact gs
       ·rw [AH.gPo (by omega)]; exact gm
     generalize hv2 : (c2 || !decide (NameOk x.2[i].1)) = v2
     rintro e H ⟨g1, g3, g4, g70, g71, g72, g7, g8, hH, hHz, gs, gf, gm⟩
     have gbH := (hH.get A.size (by omega) (by simp)).trans gb
     have hsH : SlR H s2 x.2 F2 := hs2.extx hH (fun b hb => by have := h2.bound b hb; simp; omega)
     refine RunC.cut (St2 A A' s2 x.2.length i x.2[i].1 t.v (fl6 v2 b3 (c4 || (decide (0 < (i : Int)) && !decide (slt (x.2[i - 1]'(by omega)).1 x.2[i].1))) c5 b6 c7) es) ?_ ?_
     ·cases c4
      ·by_cases hi0 : (0 : Int) < i
       ·obtain ⟨c', t', G', n2, b2', i2', d2, s0, _⟩ := hsH.target (i := i - 1) (by omega)
        have hi1 : ((i : Int) - 1).toNat = i - 1 := by omega
        simp (disch := first | omega | fail) only [amR Tryd.prog ro X, amS, seval, reduceCtorEq, ty3, ty4, ty9, ty27, ty29, ty50, ty51, ty53, ty129, ty141, ty161, ty211]
        refine WpH (H.size) [] (by kernel_rfl) (.inl (by kernel_rfl)) ?_
        simp (disch := first | omega | fail) only [amX Tryd.prog ro X, amR Tryd.prog ro X, amS, seval, reduceCtorEq, ty3, ty4, ty9, ty27, ty29, ty50, ty51, ty53, ty129, ty141, ty161, ty211, g1, g3, g7, g8, gf, gs, gbH, arrAddr, fl6, hi0, hi1, n2, d2, s0, hl2, sle_not]
        refine ⟨g1, g3, g4, g70, g71, g72, g7, g8, hH.put (by simp) _, by simp only [AH.zP]; omega, ?_, AH.gPs _ _ _, ?_⟩
        ·rw [AH.gPo (by omega)]; exact gs
        ·rw [AH.gPo (by omega)]; exact gm
       ·simp (disch := first | omega | fail) only [amR Tryd.prog ro X, amS, seval, reduceCtorEq, ty3, ty4, ty9, ty27, ty29, ty50, ty51, ty53, ty129, ty141, ty161, ty211]
        refine WpH (H.size) [] (by kernel_rfl) (.inl (by kernel_rfl)) ?_
        simp (disch := first | omega | fail) only [amX Tryd.prog ro X, amR Tryd.prog ro X, amS, seval, reduceCtorEq, ty3, ty4, ty9, ty27, ty29, ty50, ty51, ty53, ty129, ty141, ty161, ty211, g1, g3, g7, g8, gf, gs, gbH, arrAddr, fl6, hi0]
        refine ⟨g1, g3, g4, g70, g71, g72, g7, g8, hH.put (by simp) _, by simp only [AH.zP]; omega, ?_, AH.gPs _ _ _, ?_⟩
        ·rw [AH.gPo (by omega)]; exact gs
        ·rw [AH.gPo (by omega)]; exact gm
      ·simp (disch := first | omega | fail) only [amR Tryd.prog ro X, amS, seval, reduceCtorEq, ty3, ty4, ty9, ty27, ty29, ty50, ty51, ty53, ty129, ty141, ty161, ty211]
       refine WpH (H.size) [] (by kernel_rfl) (.inl (by kernel_rfl)) ?_
       simp (disch := first | omega | fail) only [amX Tryd.prog ro X, amR Tryd.prog ro X, amS, seval, reduceCtorEq, ty3, ty4, ty9, ty27, ty29, ty50, ty51, ty53, ty129, ty141, ty161, ty211, g1, g3, g7, g8, gf, gs, gbH, arrAddr, fl6]
       refine ⟨g1, g3, g4, g70, g71, g72, g7, g8, hH.put (by simp) _, by simp only [AH.zP]; omega, ?_, AH.gPs _ _ _, ?_⟩
       ·rw [AH.gPo (by omega)]; exact gs
       ·rw [AH.gPo (by omega)]; exact gm
     generalize hv4 : (c4 || (decide (0 < (i : Int)) && !decide (slt (x.2[i - 1]'(by omega)).1 x.2[i].1))) = v4
     clear gbH hsH
     rintro e H ⟨g1, g3, g4, g70, g71, g72, g7, g8, hH, hHz, gs, gf, gm⟩
     have hlook := look1 (P := Tryd.prog) (t := 161) (e := 4) (z := .bool false) (by simp only [ty161]) (by simp only [ty4]) gm x.2[i].1
     have hlv : ((if ∀ y ∈ x.1, y.1 ≠ x.2[i].1 then none else some (Value.bool true)).getD (Value.bool false)) = .bool (!decide (∀ y ∈ x.1, y.1 ≠ x.2[i].1)) := by
      by_cases hq : ∀ y ∈ x.1, y.1 ≠ x.2[i].1
      ·rw [if_pos hq, decide_eq_true hq]; rfl
      ·rw [if_neg hq, decide_eq_false hq]; rfl
     rw [hlk, hlv] at hlook
     refine RunC.cut (St2 A A' s2 x.2.length i x.2[i].1 t.v (fl6 v2 b3 v4 (c5 || !decide (∀ y ∈ x.1, y.1 ≠ x.2[i].1)) b6 c7) es) ?_ ?_
     ·cases c5
      ·simp (disch := first | omega | fail) only [amR Tryd.prog ro X, amS, seval, reduceCtorEq, ty3, ty4, ty9, ty27, ty29, ty50, ty51, ty53, ty129, ty141, ty161, ty211, g3, g4, g8, gf, gs, arrAddr, fl6, hlook]
       refine ⟨g1, g3, g4, g70, g71, g72, g7, g8, hH.put (by simp) _, by simp only [AH.zP]; omega, ?_, AH.gPs _ _ _, ?_⟩
       ·rw [AH.gPo (by omega)]; exact gs
       ·rw [AH.gPo (by omega)]; exact gm
      ·simp (disch := first | omega | fail) only [amR Tryd.prog ro X, amS, seval, reduceCtorEq, ty3, ty4, ty9, ty27, ty29, ty50, ty51, ty53, ty129, ty141, ty161, ty211, g3, g4, g8, gf, gs, arrAddr, fl6]
       refine ⟨g1, g3, g4, g70, g71, g72, g7, g8, hH.put (by simp) _, by simp only [AH.zP]; omega, ?_, AH.gPs _ _ _, ?_⟩
       ·rw [AH.gPo (by omega)]; exact gs
       ·rw [AH.gPo (by omega)]; exact gm
     generalize hv5 : (c5 || !decide (∀ y ∈ x.1, y.1 ≠ x.2[i].1)) = v5
     rintro e H ⟨g1, g3, g4, g70, g71, g72, g7, g8, hH, hHz, gs, gf, gm⟩
     have hEH : Ext A H := ⟨by have := hEA.size; omega, fun b hb => (hH.get b (by have := hEA.size; omega) (by simp; omega)).trans (hEA.get b hb)⟩
     cases c7
     ·simp (disch := first | omega | fail) only [amR Tryd.prog ro X, amS, seval, reduceCtorEq, ty3, ty4, ty9, ty27, ty29, ty50, ty51, ty53, ty129, ty141, ty161, ty211, g1, g3, g4, g8, g70, g71, g72, gf, gs, gm, arrAddr, fl6]
      refine (Prog.implValid_a _ (by first | omega | (simp only [AH.zN, AH.zP] <;> omega)) (hT.ext hEH) t x.2[i].2 G (ht.extx hH (fun b hb => by have := h2.bound b (hG b hb); simp; omega))).mono ?_
      rintro r H2 ⟨rfl, hE2⟩
      have z2' := hE2.size
      have gf2 := (hE2.get _ (by omega)).trans gf
      have gm2 := (hE2.get _ (by omega)).trans gm
      have hH2 : ExtX [A.size + 1, A.size + 2] A' H2 := hH.trans (hE2.x _)
      simp (disch := first | omega | fail) only [amR Tryd.prog ro X, amS, seval, reduceCtorEq, ty3, ty4, ty9, ty27, ty29, ty50, ty51, ty53, ty129, ty141, ty161, ty211, g1, g3, g4, g8, g70, g71, g72, gf2, arrAddr, fl6]
      refine ⟨x.2.length - (i + 1), by omega, ⟨by simp only [AH.zP]; have := hH2.size; omega, fun b hb hn => by rw [AH.gPo (by simp at hn; omega)]; exact (hH2.get b (by omega) hn).trans (hX.get b hb hn)⟩, i + 1, by omega, rfl, by simp, v2, v4, v5, _, rfl, gm2, ?_, ?_, ?_, ?_⟩
      ·rw [st2, ← and_assoc, ← i2, ← hv2]; cases c2 <;> simp
      ·rw [st4, ← i4, ← hv4]
       by_cases hi0 : i = 0
       ·subst hi0; cases c4 <;> simp
       ·have hi2 : 0 < i := by omega
        cases c4 <;> simp [hi0, hi2]
      ·rw [st5, ← i5, ← hv5]; cases c5 <;> simp
      ·rw [st7, ← i7]; simp
     ·simp (disch := first | omega | fail) only [amR Tryd.prog ro X, amS, seval, reduceCtorEq, ty3, ty4, ty9, ty27, ty29, ty50, ty51, ty53, ty129, ty141, ty161, ty211, g1, g3, g4, g8, g70, g71, g72, gf, gs, arrAddr, fl6]
      refine ⟨x.2.length - (i + 1), by omega, ⟨by simp only [AH.zP]; have := hH.size; omega, fun b hb hn => by rw [AH.gPo (by simp at hn; omega)]; exact (hH.get b (by omega) hn).trans (hX.get b hb hn)⟩, i + 1, by omega, rfl, by simp, v2, v4, v5, _, rfl, gm, ?_, ?_, ?_, ?_⟩
      ·rw [st2, ← and_assoc, ← i2, ← hv2]; cases c2 <;> simp
      ·rw [st4, ← i4, ← hv4]
       by_cases hi0 : i = 0
       ·subst hi0; cases c4 <;> simp
       ·have hi2 : 0 < i := by omega
        cases c4 <;> simp [hi0, hi2]
      ·rw [st5, ← i5, ← hv5]; cases c5 <;> simp
      ·rw [st7, ← i7]; simp
    ·have hil : i = x.2.length := by simp at h; omega
     subst hil
     rw [List.take_length] at i2 i4 i5 i7
     have hEA' := hEA
     simp (disch := first | omega | fail) only [amR Tryd.prog ro X, amS, seval, reduceCtorEq, ty3, ty4, ty9, ty27, ty29, ty50, ty51, ty53, ty129, ty141, ty161, ty211, g3, gf, fl6]
     have hcode := flag_code q1' i2 i3 i4 i5 i6 i7
     refine Wp.loopC (fun k e H => H = A' ∧ e 124 = .agg #[.bool false, .bool false, .bool c2, .bool b3, .bool c4, .bool c5, .bool b6, .bool c7] ∧ ∃ j : Nat, j ≤ 8 ∧ k = 8 - j ∧ e 125 = .int .i64 j ∧ ∀ q, q < j → (flagsOf c2 b3 c4 c5 b6 c7).getD q false = false) (8 - 0) ?_ ?_
     ·simp (disch := first | omega | fail) only [amV, amH, amQ, amL, amN Tryd.prog, amS, seval, reduceCtorEq, ty3, ty4, ty9, ty27, ty29, ty50, ty51, ty53, ty129, ty141, ty161, ty211]
      exact ⟨0, by omega, rfl, rfl, by omega⟩
     ·rintro k e H ⟨rfl, g124, j, hj, rfl, g125, hall⟩
      simp (disch := first | omega | fail) only [amR Tryd.prog ro X, amS, seval, reduceCtorEq, ty3, ty4, ty9, ty27, ty29, ty50, ty51, ty53, ty129, ty141, ty161, ty211, g125]
      refine CondB.split (fun h => ?_) (fun h => ?_)
      ·have hj8 : j < 8 := by simp at h; omega
       have hat := flag_at c2 b3 c4 c5 b6 c7 j hj8
       have hidx : ∀ cs : Array Value, aIndex Tryd.prog 211 (.agg cs) (.int .i64 (j : Int)) = cs.toList[j]? := fun cs => by rw [arrIdx Tryd.prog 211 cs .i64 j 8 4 (by simp only [ty211]) (by simp only [ty4]) (by omega)]; rfl
       cases hv : (flagsOf c2 b3 c4 c5 b6 c7).getD j false with
       | true =>
         rw [hv] at hat
         simp (disch := first | omega | fail) only [amR Tryd.prog ro X, amS, seval, reduceCtorEq, ty3, ty4, ty9, ty27, ty29, ty50, ty51, ty53, ty129, ty141, ty161, ty211, g124, g125, hidx, hat]
         exact ⟨by rw [hcode.1 j hj8 hv hall], hEA'⟩
       | false =>
         rw [hv] at hat
         simp (disch := first | omega | fail) only [amR Tryd.prog ro X, amS, seval, reduceCtorEq, ty3, ty4, ty9, ty27, ty29, ty50, ty51, ty53, ty129, ty141, ty161, ty211, g124, g125, hidx, hat]
         exact ⟨8 - (j + 1), by omega, j + 1, by omega, rfl, by simp, fun q hq => by rcases Nat.lt_or_ge q j with h | h; exact hall q h; rw [show q = j by omega]; exact hv⟩
      ·have hj8 : j = 8 := by simp at h; omega
       subst hj8
       simp (disch := first | omega | fail) only [amR Tryd.prog ro X, amS, seval, reduceCtorEq, ty3, ty4, ty9, ty27, ty29, ty50, ty51, ty53, ty129, ty141, ty161, ty211, g124, g125]
       exact ⟨by rw [hcode.2 hall], hEA'⟩
end Go.Proofs.YtjlbcofopapajaaDoor.Amu.Space2
