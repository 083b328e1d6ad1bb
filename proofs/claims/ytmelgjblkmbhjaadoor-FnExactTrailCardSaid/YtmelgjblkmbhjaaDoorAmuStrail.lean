import Derived.Test.YtmelgjblkmbhjaaDoorAmuTy
import Derived.Test.YtmelgjblkmbhjaaDoorAmSpk
import Derived.Test.YtmelgjblkmbhjaaDoorAmuProg
import Derived.Test.YtmelgjblkmbhjaaDoorAmuSpace
import Derived.Test.YtmelgjblkmbhjaaDoorAmuSmk
import Derived.Test.YtmelgjblkmbhjaaDoorAmuSrun
import Derived.Test.YtmelgjblkmbhjaaDoorAmuSmake
import Derived.Test.YtmelgjblkmbhjaaDoorAmuSclean
namespace Go.Proofs.YtmelgjblkmbhjaaDoor.Amu.Strail
open Go Go.AM Go.Proofs
set_option linter.unusedVariables false
set_option linter.unusedSimpArgs false
open Ty
variable {ro : Nat} {X : FuncId → List Value → AH → ARes → AH → Prop}
set_option maxRecDepth 10000
set_option maxHeartbeats 4000000 in
theorem spec_a (A : AH) (hro : ro ≤ A.size) (s1 s2 : Sl) (sp : TSpace) (F1 F2 : List Nat) (h1 : SlR A s1 sp.1 F1) (h2 : SlR A s2 sp.2 F2) (hl1' : sp.1.length < 1152921504606846976) (hl2' : sp.2.length < 1152921504606846976) (hb : ∀ t ∈ sp.2, t.2.length < 281474976710656) (n : ByteArray) :
 ACalls Tryd.prog ro X 52 [.agg #[s1.v, s2.v], .string n] A (fun r A' => ∃ (s : Sl) (F : List Nat) (cs : List Value) (G : List Nat), r = .ret (.tuple #[s.v, .agg cs.toArray]) ∧ SlR A' s (trailR sp n).1 F ∧ Dat.rep A' (trailR sp n).2 cs G ∧ Fresh A (F ++ G) A' ∧ Ext A A') := by
 refine ACalls.enterQ (rs := [.tmp 4, .cell 5 91]) Tryd.func52 rfl (by kernel_rfl) rfl ?_
 simp (maxSteps := 2000000) (disch := first | omega | (simp only [AH.zN, AH.zP] <;> omega) | fail) only [amR Tryd.prog ro X, amS, seval, reduceCtorEq, ty3, ty4, ty9, ty29, ty43, ty60, ty61, ty63, ty91, ty96, ty173, ty175, ty182, ty195]
 generalize hH : AH.new (AH.new (A.new _) _) _ = H
 have zH : H.size = A.size + 3 := by rw [← hH]; rfl
 have hEH : Ext A H := by rw [← hH]; exact (by ((repeat' (first | exact Ext.refl _ | assumption | refine Ext.trans ?_ (Ext.new _ _) | refine Ext.put ?_ ?_ _ | refine Ext.trans ?_ (by assumption))) <;> (first | omega | (simp only [AH.zN, AH.zP] <;> omega))))
 have ga : H.get A.size = .cells [s1.v, s2.v] 2 := by rw [← hH]; simp (maxSteps := 2000000) (disch := first | omega | (simp only [AH.zN, AH.zP] <;> omega) | fail) only [amV, amH, amQ, amL, amN Tryd.prog, amS, seval, reduceCtorEq, ty3, ty4, ty9, ty29, ty43, ty60, ty61, ty63, ty91, ty96, ty173, ty175, ty182, ty195]
 have gb : H.get (A.size + 1) = .cells [.int .i64 0, .string ByteArray.empty, Sl.nil.v] 3 := by rw [← hH]; simp (maxSteps := 2000000) (disch := first | omega | (simp only [AH.zN, AH.zP] <;> omega) | fail) only [amV, amH, amQ, amL, amN Tryd.prog, amS, seval, reduceCtorEq, ty3, ty4, ty9, ty29, ty43, ty60, ty61, ty63, ty91, ty96, ty173, ty175, ty182, ty195]
 clear hH
 have hz9 : Dat.rep A ((9, ⟨#[]⟩, []) : TResult) [.int .i64 9, .string ByteArray.empty, Sl.nil.v] [] := rep_Result.2 ⟨_, _, rfl, rfl, by show 0 < BIG; unfold BIG; omega, .nil rfl rfl rfl⟩
 have hse : ∀ A', SlR A' ⟨false, A.size + 1 + 1, 0, 0, 0⟩ ([] : List TSeen) [] := fun A' => .empty rfl rfl (by show 0 < BIG; unfold BIG; omega) rfl rfl
 refine (Space.specCheck_a H (by omega) s1 s2 sp F1 F2 (h1.ext hEH) (h2.ext hEH) hl1' hl2' hb).mono ?_
 rintro r H1 ⟨rfl, hE1⟩
 have z1 := hE1.size
 have hEA1 := hEH.trans hE1
 have ga1 := (hE1.get A.size (by omega)).trans ga
 have gb1 := (hE1.get (A.size + 1) (by omega)).trans gb
 by_cases k1 : spaceCode sp = 0
 case neg =>
  simp (disch := first | omega | fail) only [amR Tryd.prog ro X, amS, seval, reduceCtorEq, ty3, ty4, ty9, ty29, ty43, ty60, ty61, ty63, ty91, ty96, ty173, ty175, ty182, ty195, ga1, gb1, k1]
  have e : trailR sp n = ([], (9, ⟨#[]⟩, [])) := if_pos (.inl k1)
  have hE : Ext A (H1.put (A.size + 1) (.cells [.int .i64 9, .string ByteArray.empty, Sl.nil.v] 3)) := hEA1.put (by omega) _
  exact ⟨_, [], _, [], rfl, by rw [e]; exact hse _, by rw [e]; exact Dat.ext hz9 hE, Fresh.nil _ _, hE⟩
 simp (disch := first | omega | fail) only [amR Tryd.prog ro X, amS, seval, reduceCtorEq, ty3, ty4, ty9, ty29, ty43, ty60, ty61, ty63, ty91, ty96, ty173, ty175, ty182, ty195, ga1, gb1, k1]
 refine (Store.spec.l2NameOk_a _ n).mono ?_
 rintro r H1 ⟨rfl, rfl⟩
 by_cases k2 : NameOk n
 case neg =>
  simp (disch := first | omega | fail) only [amR Tryd.prog ro X, amS, seval, reduceCtorEq, ty3, ty4, ty9, ty29, ty43, ty60, ty61, ty63, ty91, ty96, ty173, ty175, ty182, ty195, ga1, gb1, k2]
  have e : trailR sp n = ([], (9, ⟨#[]⟩, [])) := if_pos (.inr k2)
  have hE : Ext A (H1.put (A.size + 1) (.cells [.int .i64 9, .string ByteArray.empty, Sl.nil.v] 3)) := hEA1.put (by omega) _
  exact ⟨_, [], _, [], rfl, by rw [e]; exact hse _, by rw [e]; exact Dat.ext hz9 hE, Fresh.nil _ _, hE⟩
 have hf := spaceFine k1
 simp (disch := first | omega | fail) only [amR Tryd.prog ro X, amS, seval, reduceCtorEq, ty3, ty4, ty9, ty29, ty43, ty60, ty61, ty63, ty91, ty96, ty173, ty175, ty182, ty195, ga1, gb1, k2]
 refine (Sclean.l3Clean_a H1 (by omega) s1 s2 sp F1 F2 (h1.ext hEA1) (h2.ext hEA1) hf n k2).mono ?_
 rintro r H2 ⟨K, md, st, G, ch, Fc, rfl, hKs, hE2, hKp, hKB, v2, hch, hFc⟩
 have z2 := hE2.size
 have gp2 := v2.gp
 unfold scV at gp2
 have gb2 := (hE2.get (A.size + 1) (by omega)).trans gb1
 have hp2 := v2.p1
 have hEA2 := hEA1.trans hE2
 have hsz := cleanR_sz sp n
 have ez : Mk.sz (cleanR sp n) = 0 + ((cleanR sp n).2.1.size + szL Mk.sz (cleanR sp n).2.2) := rfl
 have e : cleanR sp n = resOf (cleanS sp n).2 := if_neg (by rintro (h | h); exact h k1; exact h k2)
 rw [ez, e] at hsz
 have hlc := szL_length Mk.sz (resOf (cleanS sp n).2).2.2
 have et : trailR sp n = match (cleanS sp n).2 with
  | .ok r => (seenOf n (cleanS sp n).1.ext, (r.1, r.2, []))
  | .error e => ([], resOf (.error e)) := if_neg (by rintro (h | h); exact h k1; exact h k2)
 have hgo := (underG_goes hf.ok 60).goes shop0 n (InvS.shop0 _) (shop0_ok _) k2
 have hmem := (underG_goes hf.ok 60).mem shop0 n (InvS.shop0 _) (shop0_ok _) k2
 have hwt := (cleanS_ok hf.ok k2).1
 rw [et]
 change Goes sp shop0 (cleanS sp n).1 at hgo
 change n ∈ (cleanS sp n).1.asked at hmem
 generalize cleanS sp n = g at *
 obtain ⟨S2, res⟩ := g
 simp only at hgo hmem hwt v2
 have hX : ∀ {H3 : AH} {cs : List Value}, Ext A H3 → Ext A (H3.put (A.size + 1) (.cells cs 3)) := fun h => h.put (by omega) _
 cases res with
 | error er =>
   obtain ⟨rr, hrr⟩ : ∃ rr, rr = resOf (.error er) := ⟨_, rfl⟩
   simp only [← hrr] at v2 hch hsz hlc gp2 ⊢
   simp only [Sclean.isErr] at v2 gp2
   simp (disch := first | omega | fail) only [amR Tryd.prog ro X, amS, seval, reduceCtorEq, ty3, ty4, ty9, ty29, ty43, ty60, ty61, ty63, ty91, ty96, ty173, ty175, ty182, ty195, gp2]
   refine (Sclean.l3Copy_a H2 (by omega) rr.1 rr.2.1 ch rr.2.2 Fc hch (by omega)).mono ?_
   rintro r H3 ⟨s', F', rfl, h3, f3, hE3⟩
   have z3 := hE3.size
   have gb3 := (hE3.get (A.size + 1) (by omega)).trans gb2
   simp (disch := first | omega | fail) only [amR Tryd.prog ro X, amS, seval, reduceCtorEq, ty3, ty4, ty9, ty29, ty43, ty60, ty61, ty63, ty91, ty96, ty173, ty175, ty182, ty195, gb3]
   have hX5 : ExtX [A.size + 1] H3 (H3.put (A.size + 1) (.cells [.int .i64 rr.1, .string rr.2.1, s'.v] 3)) := (ExtX.refl _ _).put (by simp) _
   refine ⟨_, [], _, F', rfl, hse _, rep_Result.2 ⟨s', F', rfl, rfl, by unfold BIG; omega, h3.extx hX5 (fun b hb => by have := f3.lo b hb; simp only [List.mem_singleton]; omega)⟩, ⟨f3.nodup, fun b hb => by have := f3.lo b hb; omega, fun b hb => f3.hi b hb⟩, hX (hEA2.trans hE3)⟩
 | ok rv =>
   obtain ⟨rr, hrr⟩ : ∃ rr, rr = resOf (.ok rv) := ⟨_, rfl⟩
   have hrr' : (rv.1, rv.2, ([] : List ByteArray)) = rr := hrr.symm
   simp only [← hrr] at v2 hch hsz hlc gp2 ⊢
   simp only [Sclean.isErr] at v2 gp2
   rw [hrr']
   simp (disch := first | omega | fail) only [amR Tryd.prog ro X, amS, seval, reduceCtorEq, ty3, ty4, ty9, ty29, ty43, ty60, ty61, ty63, ty91, ty96, ty173, ty175, ty182, ty195, gp2]
   have hal : S2.asked.length < 4294967296 := by
    have h1 := hwt.asked
    have h2 := hwt.ok.few
    have h3 := hf.l2
    have h4 : 202 * ((AM.begun sp S2).length - (AM.begun sp shop0).length) ≤ 202 * 200 := Nat.mul_le_mul_left _ (by omega)
    have h5 : (shop0).asked.length = 0 := rfl
    omega
   obtain ⟨k, hk⟩ : ∃ k, idxL n S2.asked = some k := by
    cases hq : idxL n S2.asked with
    | none => exact (idxL_none hq hmem).elim
    | some k => exact ⟨k, rfl⟩
   have hak := (idxL_some hk).1
   have hkn : S2.asked[k] = n := by obtain ⟨w1, w2⟩ := List.getElem?_eq_some_iff.1 (idxL_some hk).2.1; exact w2
   obtain ⟨c1, c2, sn, y, m1, m2, m3, m4, m5, m6, m7, m8, m9, m10, ⟨Fs, hs, _⟩, _⟩ := v2.row (k := k) (by rw [rowsOf_len]; exact hak)
   have hys : y.2.2.1 = seenOf n S2.ext := by
    rw [seenOf_eq hgo.inv, m7, rowsOf_get, hkn]
    unfold rowOf
    cases hl : lookL n S2.made with
    | some r => rfl
    | none => simp only; rw [hgo.inv.ext n hl]; rfl
   rw [hys] at hs
   have hc4 : cellK (md.o + k * 6 + 4) (H2.get md.b) = some sn.v := by
    rw [m8, m2, Nat.zero_add, cellK_mid m9 4 (by simp)]; rfl
   have hsl : (seenOf n S2.ext).length < 4294967296 := by have := (seenOf_ok hgo.inv n).1; omega
   obtain ⟨t1, H3, hap, hacc, hE3⟩ := hs.onto (P := Tryd.prog) (ro := ro) (t := 96) (b := A.size + 1 + 1) (o := 0) (fun h => h.nofoot nofoot_Seen) (by simp only [ty96]; rfl) (by omega) hsl
   have z3 := hE3.size
   have gp3 := (hE3.get K.p hp2).trans gp2
   have gb3 := (hE3.get (A.size + 1) (by omega)).trans gb2
   refine RunC.norm ?_
   refine Wp.runG [7, 11] (by kernel_rfl) (.inr (by intro v e A h; simp only [amK, amQ, thenQ, blockQ, endQ, reduceCtorEq, false_and, exists_false] at h)) ?_
   simp (disch := first | omega | fail) only [amR Tryd.prog ro X, amS, seval, reduceCtorEq, ty3, ty4, ty9, ty29, ty43, ty60, ty61, ty63, ty91, ty96, ty173, ty175, ty182, ty195, gp2]
   refine (Smk.find_a v2 n hal).mono ?_
   rintro R H2 ⟨rfl, rfl⟩
   unfold idxI
   rw [hk]
   simp (disch := first | omega | fail) only [amR Tryd.prog ro X, amS, seval, reduceCtorEq, ty3, ty4, ty9, ty29, ty43, ty60, ty61, ty63, ty91, ty96, ty173, ty175, ty182, ty195, gp2, gp3, m1, hc4, hap]
   refine ⟨fun b hb => trivial, fun b hb => hE3.get b hb, ?_⟩
   have hch3 := hch.ext hE3
   refine (Sclean.l3Copy_a H3 (by omega) rr.1 rr.2.1 ch rr.2.2 Fc hch3 (by omega)).mono ?_
   rintro r H4 ⟨s', F', rfl, h4, f4, hE4⟩
   have z4 := hE4.size
   have gb4 := (hE4.get (A.size + 1) (by omega)).trans gb3
   simp (disch := first | omega | fail) only [amR Tryd.prog ro X, amS, seval, reduceCtorEq, ty3, ty4, ty9, ty29, ty43, ty60, ty61, ty63, ty91, ty96, ty173, ty175, ty182, ty195, gb4]
   have hX5 : ExtX [A.size + 1] H4 (H4.put (A.size + 1) (.cells [.int .i64 rr.1, .string rr.2.1, s'.v] 3)) := (ExtX.refl _ _).put (by simp) _
   obtain ⟨Fa, a1, a2⟩ := hacc.fresh (Fresh.nil _ _)
   have f34 : Fresh A (Fa ++ F') H4 := (a2.append f4 z3 z4).mono (by omega) (Nat.le_refl _)
   refine ⟨t1, Fa, _, F', rfl, (a1.ext hE4).extx hX5 (fun b hb => by have := a2.lo b hb; simp only [List.mem_singleton]; omega), rep_Result.2 ⟨s', F', rfl, rfl, by unfold BIG; omega, h4.extx hX5 (fun b hb => by have := f4.lo b hb; simp only [List.mem_singleton]; omega)⟩, ⟨f34.nodup, f34.lo, f34.hi⟩, hX ((hEA2.trans hE3).trans hE4)⟩
end Go.Proofs.YtmelgjblkmbhjaaDoor.Amu.Strail
