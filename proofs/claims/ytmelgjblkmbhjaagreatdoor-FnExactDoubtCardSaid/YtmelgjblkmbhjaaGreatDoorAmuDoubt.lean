import Derived.Test.YtmelgjblkmbhjaaGreatDoorAmuTy
import Derived.Test.YtmelgjblkmbhjaaGreatDoorAmMake
import Derived.Test.YtmelgjblkmbhjaaGreatDoorAmSpk
import Derived.Test.YtmelgjblkmbhjaaGreatDoorAmuProg
import Derived.Test.YtmelgjblkmbhjaaGreatDoorAmuStore
import Derived.Test.YtmelgjblkmbhjaaGreatDoorAmuMk
import Derived.Test.YtmelgjblkmbhjaaGreatDoorAmuNewM
import Derived.Test.YtmelgjblkmbhjaaGreatDoorAmuWhole
import Derived.Test.YtmelgjblkmbhjaaGreatDoorAmuSpace2
import Derived.Test.YtmelgjblkmbhjaaGreatDoorAmuForm
import Derived.Test.YtmelgjblkmbhjaaGreatDoorAmuClashL
namespace Go.Proofs.YtmelgjblkmbhjaaGreatDoor.Amu.Doubt
open Go Go.AM Go.Proofs
set_option linter.all false
open Ty
variable {ro : Nat} {X : FuncId → List Value → AH → ARes → AH → Prop}
set_option maxRecDepth 10000
open Mk (J0 J0_ok CS under_all)
theorem asked_few {sp : TSpace} (hf : SpaceFine sp) {n : ByteArray} (hn : NameOk n) : (cleanS sp n).1.asked.length ≤ 100000 := by
 have hw := (cleanS_ok hf.ok hn).1
 have h1 := hw.asked
 have h2 := hw.ok.few
 have h3 := hf.l2
 have h4 : (AM.begun sp (cleanS sp n).1).length - (AM.begun sp shop0).length ≤ 200 := by omega
 have h5 := Nat.mul_le_mul_left 202 h4
 have h6 : (shop0 : CSh).asked.length = 0 := rfl
 omega
theorem reps_lit (A : AH) : Reps A litT [.string ⟨#[49]⟩, .string ⟨#[48]⟩] [] :=
 Reps.cons (x := (⟨#[49]⟩ : ByteArray)) (c := [.string ⟨#[49]⟩]) (F := []) ⟨rfl, rfl, by unfold BIG; decide⟩ (Reps.one ⟨rfl, rfl, by unfold BIG; decide⟩)
set_option maxHeartbeats 4000000 in
theorem impl_a (hXD : ∀ f args A r A', XD Tryz.prog Tryz.prog.globals.size ro (fun _ _ _ _ _ => False) f args A r A' → X f args A r A') (A : AH) (hro : ro ≤ A.size) (hT : Tab 0 A) (hP : Pow 6 A)
 (t1 t2 : Sl) (x : TStore) (D1 D2 : List Nat) (hd1 : SlR A t1 x.2.1 D1) (hd2 : SlR A t2 x.2.2 D2) (s1 s2 : Sl) (sp : TSpace) (F1 F2 : List Nat) (h1 : SlR A s1 sp.1 F1) (h2 : SlR A s2 sp.2 F2)
 (hl1' : sp.1.length < 1152921504606846976) (hl2' : sp.2.length < 1152921504606846976) (n : ByteArray) :
 ACalls Tryz.prog ro X 16 [.agg #[.int .i64 x.1, t1.v, t2.v], .agg #[s1.v, s2.v], .string n] A (fun r A' => r = .ret (clashV (doubtR x sp n)) ∧ Ext A A') := by
 refine ACalls.enterQ (rs := [.tmp 6, .tmp 7, .tmp 8]) Tryz.func16 rfl (by kernel_rfl) rfl ?_
 simp (maxSteps := 2000000) (disch := first | omega | (simp only [AH.zN, AH.zP] <;> omega) | fail) only [amR Tryz.prog ro X, amS, seval, reduceCtorEq, ty3, ty4, ty9, ty22, ty27, ty29, ty42, ty43, ty45, ty79, ty81, ty82, ty83, ty84, ty85, ty87]
 generalize hH : AH.new (A.new _) _ = H
 have zH : H.size = A.size + 2 := by rw [← hH]; rfl
 have hEH : Ext A H := by rw [← hH]; exact (by ((repeat' (first | exact Ext.refl _ | assumption | refine Ext.trans ?_ (Ext.new _ _) | refine Ext.put ?_ ?_ _ | refine Ext.trans ?_ (by assumption))) <;> (first | omega | (simp only [AH.zN, AH.zP] <;> omega))))
 have gt : H.get A.size = .cells [.int .i64 x.1, t1.v, t2.v] 3 := by rw [← hH]; simp (maxSteps := 2000000) (disch := first | omega | (simp only [AH.zN, AH.zP] <;> omega) | fail) only [amV, amH, amQ, amL, amN Tryz.prog, amS, seval, reduceCtorEq, ty3, ty4, ty9, ty22, ty27, ty29, ty42, ty43, ty45, ty79, ty81, ty82, ty83, ty84, ty85, ty87]
 have ga : H.get (A.size + 1) = .cells [s1.v, s2.v] 2 := by rw [← hH]; simp (maxSteps := 2000000) (disch := first | omega | (simp only [AH.zN, AH.zP] <;> omega) | fail) only [amV, amH, amQ, amL, amN Tryz.prog, amS, seval, reduceCtorEq, ty3, ty4, ty9, ty22, ty27, ty29, ty42, ty43, ty45, ty79, ty81, ty82, ty83, ty84, ty85, ty87]
 clear hH
 refine (Store.implStore_a H (by omega) (hT.ext hEH) t1 t2 x D1 D2 (hd1.ext hEH) (hd2.ext hEH)).mono ?_
 rintro r H0 ⟨rfl, hE0⟩
 have z0 := hE0.size
 have hEA0 := hEH.trans hE0
 have gt0 := (hE0.get A.size (by omega)).trans gt
 have ga0 := (hE0.get (A.size + 1) (by omega)).trans ga
 by_cases k0 : StoreOk x
 case neg =>
  simp (maxSteps := 2000000) (disch := first | omega | (simp only [AH.zN, AH.zP] <;> omega) | fail) only [amR Tryz.prog ro X, amS, seval, reduceCtorEq, ty3, ty4, ty9, ty22, ty27, ty29, ty42, ty43, ty45, ty79, ty81, ty82, ty83, ty84, ty85, ty87, gt0, ga0, k0]
  exact ⟨by rw [doubtR, if_pos (.inl k0)]; rfl, hEA0⟩
 simp (maxSteps := 2000000) (disch := first | omega | (simp only [AH.zN, AH.zP] <;> omega) | fail) only [amR Tryz.prog ro X, amS, seval, reduceCtorEq, ty3, ty4, ty9, ty22, ty27, ty29, ty42, ty43, ty45, ty79, ty81, ty82, ty83, ty84, ty85, ty87, gt0, ga0, k0]
 refine (Space2.implCheck_a H0 (by omega) (hT.ext hEA0) s1 s2 sp F1 F2 (h1.ext hEA0) (h2.ext hEA0) hl1' hl2').mono ?_
 rintro r H1 ⟨rfl, hE1⟩
 have z1 := hE1.size
 have hEA1 := hEA0.trans hE1
 have gt1 := (hE1.get A.size (by omega)).trans gt0
 have ga1 := (hE1.get (A.size + 1) (by omega)).trans ga0
 by_cases k1 : spaceCode sp = 0
 case neg =>
  simp (maxSteps := 2000000) (disch := first | omega | (simp only [AH.zN, AH.zP] <;> omega) | fail) only [amR Tryz.prog ro X, amS, seval, reduceCtorEq, ty3, ty4, ty9, ty22, ty27, ty29, ty42, ty43, ty45, ty79, ty81, ty82, ty83, ty84, ty85, ty87, gt1, ga1, k1]
  exact ⟨by rw [doubtR, if_pos (.inr (.inl k1))]; rfl, hEA1⟩
 simp (maxSteps := 2000000) (disch := first | omega | (simp only [AH.zN, AH.zP] <;> omega) | fail) only [amR Tryz.prog ro X, amS, seval, reduceCtorEq, ty3, ty4, ty9, ty22, ty27, ty29, ty42, ty43, ty45, ty79, ty81, ty82, ty83, ty84, ty85, ty87, gt1, ga1, k1]
 refine (Store.impl.isName_a _ n).mono ?_
 rintro r H1 ⟨rfl, rfl⟩
 by_cases k2 : NameOk n
 case neg =>
  simp (maxSteps := 2000000) (disch := first | omega | (simp only [AH.zN, AH.zP] <;> omega) | fail) only [amR Tryz.prog ro X, amS, seval, reduceCtorEq, ty3, ty4, ty9, ty22, ty27, ty29, ty42, ty43, ty45, ty79, ty81, ty82, ty83, ty84, ty85, ty87, gt1, ga1, k2]
  exact ⟨by rw [doubtR, if_pos (.inr (.inr k2))]; rfl, hEA1⟩
 have hf := spaceFine k1
 have hres : doubtR x sp n = clashL (doubtT x sp n) x.1 := if_neg (by rintro (h | h | h); exact h k0; exact h k1; exact h k2)
 rw [hres]
 simp (maxSteps := 2000000) (disch := first | omega | (simp only [AH.zN, AH.zP] <;> omega) | fail) only [amR Tryz.prog ro X, amS, seval, reduceCtorEq, ty3, ty4, ty9, ty22, ty27, ty29, ty42, ty43, ty45, ty79, ty81, ty82, ty83, ty84, ty85, ty87, gt1, ga1, k2]
 refine (NewM.new_a (σ := CS) H1 (by omega) s1 s2 sp F1 F2 (h1.ext hEA1) (h2.ext hEA1) hf.l1 hf.l2 hf.n1 hf.n2 []).mono ?_
 rintro r H2 ⟨K, rfl, hE2, hKs, hKB, hKt, hfv, hV⟩
 have z2 := hE2.size
 have gt2 := (hE2.get A.size (by omega)).trans gt1
 simp (maxSteps := 2000000) (disch := first | omega | (simp only [AH.zN, AH.zP] <;> omega) | fail) only [amR Tryz.prog ro X, amS, seval, reduceCtorEq, ty3, ty4, ty9, ty22, ty27, ty29, ty42, ty43, ty45, ty79, ty81, ty82, ty83, ty84, ty85, ty87]
 have hEA2 := hEA1.trans hE2
 have hun := under_all (ro := ro) (X := fun _ _ _ _ _ => False) (pv := EndV 168 K.top) (by rw [hKB]; omega) (by rw [hKB]; exact hT.ext hEA1) (by rw [hKB]; exact hP.ext hEA1) (fun e v A h => h) hfv (by rw [hKs]; exact hf.ok) 60
 obtain ⟨b1, b2, b3, b4, b5, b6, b7⟩ := hV.k.nums
 have hKBz : K.B.size = H1.size := by rw [hKB]
 have hbd := hV.bound
 obtain ⟨v, H3, hx, s, F, rfl, hs, hF, ⟨os, ms, es3, es4, FJ, v3, x3, y3⟩⟩ := Whole.whole_a (ro := ro) (X := fun _ _ _ _ _ => False) (by rw [hKB]; omega) (J0_ok _) hun H2 shop0 .nil .nil [] [] [] (by omega) hV (shop0_ok _) rfl n k2 (by rw [hKs]; exact roomS hf)
 refine ⟨_, H3, .ext (hXD _ _ _ _ _ hx), ?_⟩
 have z3 := x3.size
 have hE3 : Ext A H3 := ⟨by omega, fun b hb => (x3.get b (by omega) fun hm => by
  rcases mem_ftp.1 hm with e | e | e | ⟨e, _⟩ | ⟨e, _⟩ | e <;> first | omega | cases e).trans (hEA2.get b hb)⟩
 have gt3 := (x3.get A.size (by omega) fun hm => by
  rcases mem_ftp.1 hm with e | e | e | ⟨e, _⟩ | ⟨e, _⟩ | e <;> first | omega | cases e).trans gt2
 have hc : (underG (cleanMk K.sp) K.sp 60 shop0 n) = cleanS sp n := by rw [hKs]; rfl
 rw [hc] at v3
 have hfew := asked_few hf k2
 have hSok := (cleanS_ok hf.ok k2).1.ok
 have hT5 := k0.2.1
 unfold doubtT
 generalize (cleanS sp n).1 = S at *
 have gp3 := v3.gp
 unfold mcV at gp3
 obtain ⟨n1, n2, n3, n4, n5, n6, n7⟩ := v3.k.nums
 obtain ⟨u1, H4, hap, hacc, hE4⟩ := (hd1.ext hE3).copied (P := Tryz.prog) (ro := ro) (t := 22) (fun h => h.nofoot nofoot_Str) (by simp only [ty22]; rfl) (by omega) (by omega)
 rw [show Dat.w ByteArray = 1 from rfl] at hap
 have gt4 := (hE4.get A.size (by omega)).trans gt3
 have gp4 := (hE4.get K.p (by omega)).trans gp3
 have z4 := hE4.size
 obtain ⟨u2, H5, hap2, hacc2, hg2, hz5, _⟩ := hacc.lit (P := Tryz.prog) (ro := ro) (t := 22) (n := 2) (vs := [.string ⟨#[49]⟩, .string ⟨#[48]⟩]) (xs := litT) (by omega) (by simp only [ty22]; rfl) rfl (reps_lit _) (.inr (by simp)) (by omega) (by omega)
 rw [show Dat.w ByteArray = 1 from rfl] at hap2
 have hE5 : Ext H3 H5 := hg2.ext hE4 (Nat.le_refl _)
 have gp5 := (hE5.get K.p (by omega)).trans gp3
 have gt5 := (hE5.get A.size (by omega)).trans gt3
 have hosl := v3.so.len
 simp (maxSteps := 2000000) (disch := first | omega | (simp only [AH.zN, AH.zP] <;> omega) | fail) only [amR Tryz.prog ro X, amS, seval, reduceCtorEq, ty3, ty4, ty9, ty22, ty27, ty29, ty42, ty43, ty45, ty79, ty81, ty82, ty83, ty84, ty85, ty87, gt3, gt4, hap, hap2, gp5, hosl]
 refine Wp.loopC (fun m e A' => e 3 = .pointer (some ⟨A.size, 0, none⟩) ∧ e 9 = .pointer (some ⟨K.p, 0, none⟩) ∧ e 43 = os.v ∧ e 44 = .int .i64 S.asked.length ∧ Ext H3 A' ∧ ∃ i : Nat, i ≤ S.asked.length ∧ m = S.asked.length - i ∧ e 45 = .int .i64 i ∧ ∃ s : Sl, e 10 = s.v ∧ Acc H3.size A' s (x.2.1 ++ litT ++ madeT S (S.asked.take i)) []) (S.asked.length - 0) ?_ ?_
 ·simp (maxSteps := 2000000) (disch := first | omega | (simp only [AH.zN, AH.zP] <;> omega) | fail) only [amV, amH, amQ, amL, amN Tryz.prog, amS, seval, reduceCtorEq, ty3, ty4, ty9, ty22, ty27, ty29, ty42, ty43, ty45, ty79, ty81, ty82, ty83, ty84, ty85, ty87]
  refine ⟨hE5, 0, by omega, rfl, rfl, u2, rfl, ?_⟩
  rw [List.take_zero, show madeT S [] = [] from rfl, List.append_nil]
  exact hacc2
 ·rintro m e A' ⟨e3, e9, e43, e44, hE, i, hi, rfl, e45, s, e10, hs⟩
  have z' := hE.size
  have gp' := (hE.get K.p (by omega)).trans gp3
  have g3' := (hE.get K.b3 (by omega)).trans v3.g3
  have gt' := (hE.get A.size (by omega)).trans gt3
  simp (maxSteps := 2000000) (disch := first | omega | (simp only [AH.zN, AH.zP] <;> omega) | fail) only [amR Tryz.prog ro X, amS, seval, reduceCtorEq, ty3, ty4, ty9, ty22, ty27, ty29, ty42, ty43, ty45, ty79, ty81, ty82, ty83, ty84, ty85, ty87, e44, e45]
  refine CondB.split (fun h => ?_) (fun h => ?_)
  ·have hin : i < S.asked.length := by simp at h; omega
   obtain ⟨Fo, hFo, _⟩ := (v3.so.ext hE).slr
   obtain ⟨q1, q2, q3, q4, c1, q5⟩ := hFo.str hin
   rw [aCell_eq] at c1
   have hlook := look2 (P := Tryz.prog) (t := 83) (e := 79) (z := .agg #[.int .i64 0, .string ByteArray.empty, Sl.nil.v]) (by simp only [ty83]) (by rfl) g3' S.asked[i]
   rw [v3.m3] at hlook
   have htk : S.asked.take (i + 1) = S.asked.take i ++ [S.asked[i]] := List.take_succ_eq_append_getElem hin
   have hml := madeT_len S (S.asked.take i)
   rw [List.length_take] at hml
   cases hl : lookL S.asked[i] S.made with
   | none =>
     rw [hl] at hlook
     simp only [Option.map_none] at hlook
     simp (maxSteps := 2000000) (disch := first | omega | (simp only [AH.zN, AH.zP] <;> omega) | fail) only [amR Tryz.prog ro X, amS, seval, reduceCtorEq, ty3, ty4, ty9, ty22, ty27, ty29, ty42, ty43, ty45, ty79, ty81, ty82, ty83, ty84, ty85, ty87, e3, e9, e43, e44, e45, e10, q1, c1, gp', hlook]
     generalize hB : AH.put (A'.new _) A'.size _ = B
     have hEB : Ext A' B := by rw [← hB]; exact (by ((repeat' (first | exact Ext.refl _ | assumption | refine Ext.trans ?_ (Ext.new _ _) | refine Ext.put ?_ ?_ _ | refine Ext.trans ?_ (by assumption))) <;> (first | omega | (simp only [AH.zN, AH.zP] <;> omega))))
     refine ⟨S.asked.length - (i + 1), by omega, hE.trans hEB, i + 1, by omega, rfl, rfl, s, rfl, ?_⟩
     rw [htk, madeT_snoc, hl]
     simp only [List.append_nil]
     exact hs.ext hEB
   | some r =>
     have hok : ResOk r := hSok.res _ (lookL_mem hl)
     have hr2 : r.2.size ≤ 2000 := hok.2.2
     rw [hl] at hlook
     simp only [Option.map_some, madeV] at hlook
     simp (maxSteps := 2000000) (disch := first | omega | (simp only [AH.zN, AH.zP] <;> omega) | fail) only [amR Tryz.prog ro X, amS, seval, reduceCtorEq, ty3, ty4, ty9, ty22, ty27, ty29, ty42, ty43, ty45, ty79, ty81, ty82, ty83, ty84, ty85, ty87, e3, e9, e43, e44, e45, e10, q1, c1, gp', hlook]
     generalize hB : AH.put (A'.new _) A'.size _ = B
     have hEB : Ext A' B := by rw [← hB]; exact (by ((repeat' (first | exact Ext.refl _ | assumption | refine Ext.trans ?_ (Ext.new _ _) | refine Ext.put ?_ ?_ _ | refine Ext.trans ?_ (by assumption))) <;> (first | omega | (simp only [AH.zN, AH.zP] <;> omega))))
     have zB := hEB.size
     refine (Form.implForm_a B (by omega) r.1 r.2 Sl.nil [] [] (.nil rfl rfl rfl) (by omega)).mono ?_
     rintro R B2 ⟨rfl, hE2⟩
     have zB2 := hE2.size
     have hne := formT_ne hok
     have hsz := formT_size hok
     rw [show formR r.1 r.2 [] = formT r from rfl]
     have hlit : litT.length = 2 := rfl
     obtain ⟨s', B3, hap, hs', hg, hz5, _⟩ := ((hs.ext hEB).ext hE2).lit (P := Tryz.prog) (ro := ro) (t := 22) (n := 1) (vs := [.string (formT r)]) (xs := [formT r]) (by omega) (by simp only [ty22]; rfl) rfl (Reps.one ⟨rfl, rfl, by unfold BIG; omega⟩) (.inr (by simp)) (by simp only [List.length_append]; omega) (by omega)
     rw [show Dat.w ByteArray = 1 from rfl] at hap
     simp (maxSteps := 2000000) (disch := first | omega | (simp only [AH.zN, AH.zP] <;> omega) | fail) only [amR Tryz.prog ro X, amS, seval, reduceCtorEq, ty3, ty4, ty9, ty22, ty27, ty29, ty42, ty43, ty45, ty79, ty81, ty82, ty83, ty84, ty85, ty87, e3, e9, e43, e44, e45, e10, hne, hap]
     refine ⟨S.asked.length - (i + 1), by omega, hg.ext (hE.trans (hEB.trans hE2)) (Nat.le_refl _), i + 1, by omega, rfl, rfl, s', rfl, ?_⟩
     rw [htk, madeT_snoc, hl]
     show Acc _ _ _ (_ ++ (_ ++ [formT r])) _
     rw [← List.append_assoc]
     exact hs'
  ·have hin : i = S.asked.length := by simp at h; omega
   obtain ⟨G, hG, _⟩ := hs.slr
   subst hin
   rw [List.take_length] at hG
   simp (maxSteps := 2000000) (disch := first | omega | (simp only [AH.zN, AH.zP] <;> omega) | fail) only [amR Tryz.prog ro X, amS, seval, reduceCtorEq, ty3, ty4, ty9, ty22, ty27, ty29, ty42, ty43, ty45, ty79, ty81, ty82, ty83, ty84, ty85, ty87, e3, e10, gt']
   refine (Clash.clash_a A' (by omega) s _ G hG x.1 (by have := madeT_len S S.asked; simp only [List.length_append]; have : litT.length = 2 := rfl; omega)).mono ?_
   rintro r A2 ⟨rfl, hE2⟩
   cases hc : clashL (x.2.1 ++ litT ++ madeT S S.asked) x.1 with
   | none =>
     simp (maxSteps := 2000000) (disch := first | omega | (simp only [AH.zN, AH.zP] <;> omega) | fail) only [amR Tryz.prog ro X, amS, seval, reduceCtorEq, ty3, ty4, ty9, ty22, ty27, ty29, ty42, ty43, ty45, ty79, ty81, ty82, ty83, ty84, ty85, ty87, clashV]
     exact (hE3.trans hE).trans hE2
   | some y =>
     simp (maxSteps := 2000000) (disch := first | omega | (simp only [AH.zN, AH.zP] <;> omega) | fail) only [amR Tryz.prog ro X, amS, seval, reduceCtorEq, ty3, ty4, ty9, ty22, ty27, ty29, ty42, ty43, ty45, ty79, ty81, ty82, ty83, ty84, ty85, ty87, clashV]
     exact (hE3.trans hE).trans hE2
end Go.Proofs.YtmelgjblkmbhjaaGreatDoor.Amu.Doubt
