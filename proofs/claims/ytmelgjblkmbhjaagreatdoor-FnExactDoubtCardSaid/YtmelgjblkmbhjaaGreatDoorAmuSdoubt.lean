import Derived.Test.YtmelgjblkmbhjaaGreatDoorAmuTy
import Derived.Test.YtmelgjblkmbhjaaGreatDoorAmSpk
import Derived.Test.YtmelgjblkmbhjaaGreatDoorAmuProg
import Derived.Test.YtmelgjblkmbhjaaGreatDoorAmuStore
import Derived.Test.YtmelgjblkmbhjaaGreatDoorAmuSpace
import Derived.Test.YtmelgjblkmbhjaaGreatDoorAmuSmk
import Derived.Test.YtmelgjblkmbhjaaGreatDoorAmuSmade
import Derived.Test.YtmelgjblkmbhjaaGreatDoorAmuForm
import Derived.Test.YtmelgjblkmbhjaaGreatDoorAmuSum
namespace Go.Proofs.YtmelgjblkmbhjaaGreatDoor.Amu.Sdoubt
open Go Go.AM Go.Proofs
set_option linter.all false
open Ty
variable {ro : Nat} {X : FuncId → List Value → AH → ARes → AH → Prop}
set_option maxRecDepth 10000
theorem reps_lit (A : AH) : Reps A litT [.string ⟨#[49]⟩, .string ⟨#[48]⟩] [] :=
 Reps.cons (x := (⟨#[49]⟩ : ByteArray)) (c := [.string ⟨#[49]⟩]) (F := []) ⟨rfl, rfl, by unfold BIG; decide⟩ (Reps.one ⟨rfl, rfl, by unfold BIG; decide⟩)
theorem asked_few {sp : TSpace} (hf : SpaceFine sp) {n : ByteArray} (hn : NameOk n) : (cleanS sp n).1.asked.length ≤ 100000 := by
 have hw := (cleanS_ok hf.ok hn).1
 have h1 := hw.asked
 have h2 := hw.ok.few
 have h3 := hf.l2
 have h4 : (AM.begun sp (cleanS sp n).1).length - (AM.begun sp shop0).length ≤ 200 := by omega
 have h5 := Nat.mul_le_mul_left 202 h4
 have h6 : (shop0 : CSh).asked.length = 0 := rfl
 omega
theorem acc_lt {α : Type} [Dat α] {lo : Nat} {A : AH} {s : Sl} {l : List α} {G : List Nat} (h : Acc lo A s l G) (hl : 0 < l.length) : s.b < A.size := by
 cases h with
 | nil => simp at hl
 | empty => simp at hl
 | own h1 h2 => exact h2
set_option maxHeartbeats 4000000 in
theorem texts_a (A : AH) (hro : ro ≤ A.size) (t1 t2 : Sl) (x : TStore) (D1 D2 : List Nat) (hd1 : SlR A t1 x.2.1 D1) (hd2 : SlR A t2 x.2.2 D2) (s1 s2 : Sl) (sp : TSpace) (F1 F2 : List Nat) (h1 : SlR A s1 sp.1 F1) (h2 : SlR A s2 sp.2 F2) (hf : SpaceFine sp) (n : ByteArray) (hn : NameOk n) (hT5 : x.2.1.length ≤ 5000) :
 ACalls Tryz.prog ro X 40 [.agg #[.int .i64 x.1, t1.v, t2.v], .agg #[s1.v, s2.v], .string n] A (fun r A' => ∃ (s : Sl) (F : List Nat), r = .ret s.v ∧ SlR A' s (doubtT x sp n) F ∧ Ext A A') := by
 refine ACalls.enterQ (rs := [.tmp 6]) Tryz.func40 rfl (by kernel_rfl) rfl ?_
 obtain ⟨H, hH⟩ : ∃ H, H = AH.new (A.new (.cells [.int .i64 x.1, t1.v, t2.v] 3)) (.cells [s1.v, s2.v] 2) := ⟨_, rfl⟩
 have zH : H.size = A.size + 2 := by rw [hH]; rfl
 have hEH : Ext A H := by rw [hH]; exact (by ((repeat' (first | exact Ext.refl _ | assumption | refine Ext.trans ?_ (Ext.new _ _) | refine Ext.put ?_ ?_ _ | refine Ext.trans ?_ (by assumption))) <;> (first | omega | (simp only [AH.zN, AH.zP] <;> omega))))
 have gt : H.get A.size = .cells [.int .i64 x.1, t1.v, t2.v] 3 := by rw [hH]; simp (maxSteps := 2000000) (disch := first | omega | (simp only [AH.zN, AH.zP] <;> omega) | fail) only [amV, amH, amQ, amL, amN Tryz.prog, amS, seval, reduceCtorEq, ty3, ty4, ty9, ty22, ty27, ty29, ty42, ty43, ty45, ty79, ty154, ty156, ty157, ty159]
 have ga : H.get (A.size + 1) = .cells [s1.v, s2.v] 2 := by rw [hH]; simp (maxSteps := 2000000) (disch := first | omega | (simp only [AH.zN, AH.zP] <;> omega) | fail) only [amV, amH, amQ, amL, amN Tryz.prog, amS, seval, reduceCtorEq, ty3, ty4, ty9, ty22, ty27, ty29, ty42, ty43, ty45, ty79, ty154, ty156, ty157, ty159]
 obtain ⟨u1, H4, hap, hacc, hE4⟩ := (hd1.ext hEH).copied (P := Tryz.prog) (ro := ro) (t := 22) (fun h => h.nofoot nofoot_Str) (by simp only [ty22]; rfl) (by omega) (by omega)
 rw [show Dat.w ByteArray = 1 from rfl] at hap
 have z4 := hE4.size
 obtain ⟨u2, H5, hap2, hacc2, hg2, hz5, _⟩ := hacc.lit (P := Tryz.prog) (ro := ro) (t := 22) (n := 2) (vs := [.string ⟨#[49]⟩, .string ⟨#[48]⟩]) (xs := litT) (by omega) (by simp only [ty22]; rfl) rfl (reps_lit _) (.inr (by simp)) (by omega) (by omega)
 rw [show Dat.w ByteArray = 1 from rfl] at hap2
 have hE5 : Ext H H5 := hg2.ext hE4 (Nat.le_refl _)
 have ga5 := (hE5.get (A.size + 1) (by omega)).trans ga
 have gt5 := (hE5.get A.size (by omega)).trans gt
 have z5 := hE5.size
 simp only [hH, AH.zN] at hap
 simp (maxSteps := 2000000) (disch := first | omega | (simp only [AH.zN, AH.zP] <;> omega) | fail) only [amR Tryz.prog ro X, amS, seval, reduceCtorEq, ty3, ty4, ty9, ty22, ty27, ty29, ty42, ty43, ty45, ty79, ty154, ty156, ty157, ty159, hap, hap2, ga5]
 refine (Smade.l3Clean_a H5 (by omega) s1 s2 sp F1 F2 ((h1.ext hEH).ext hE5) ((h2.ext hEH).ext hE5) hf n hn).mono ?_
 rintro r H6 ⟨K, md, st, G, ch, Fc, rfl, hKs, hE6, hKp, hKB, v6, hch, _⟩
 have z6 := hE6.size
 have hSok := (cleanS_ok hf.ok hn).1.ok
 have hfew := asked_few hf hn
 unfold doubtT
 generalize (cleanS sp n).1 = S at *
 have gp6 := v6.gp
 unfold scV at gp6
 have hKl := v6.p1
 have hmdl : md.len = S.asked.length := by rw [v6.smd.len, rowsOf_len]
 have hEA6 : Ext A H6 := hEH.trans (hE5.trans hE6)
 have hlit : litT.length = 2 := rfl
 simp (maxSteps := 2000000) (disch := first | omega | (simp only [AH.zN, AH.zP] <;> omega) | fail) only [amR Tryz.prog ro X, amS, seval, reduceCtorEq, ty3, ty4, ty9, ty22, ty27, ty29, ty42, ty43, ty45, ty79, ty154, ty156, ty157, ty159]
 have hu2 := acc_lt hacc2 (by simp only [List.length_append]; omega)
 have hmr := v6.mrow
 refine Wp.loopC (fun m e A' => e 8 = .pointer (some ⟨K.p, 0, none⟩) ∧ Ext H A' ∧ H6.size ≤ A'.size ∧ A'.get K.p = H6.get K.p ∧ ∃ i : Nat, i ≤ S.asked.length ∧ m = S.asked.length - i ∧ e 9 = .int .i64 i ∧ ∃ s : Sl, e 7 = s.v ∧ s.b ≠ K.p ∧ (md.nl = false → s.b ≠ md.b ∧ A'.get md.b = H6.get md.b) ∧ Acc H.size A' s (x.2.1 ++ litT ++ madeT S (S.asked.take i)) []) (S.asked.length - 0) ?_ ?_
 ·simp (maxSteps := 2000000) (disch := first | omega | (simp only [AH.zN, AH.zP] <;> omega) | fail) only [amV, amH, amQ, amL, amN Tryz.prog, amS, seval, reduceCtorEq, ty3, ty4, ty9, ty22, ty27, ty29, ty42, ty43, ty45, ty79, ty154, ty156, ty157, ty159]
  refine ⟨hE5.trans hE6, 0, by omega, rfl, rfl, u2, rfl, by omega, fun h e => by have := hmr h; omega, ?_⟩
  rw [List.take_zero, show madeT S [] = [] from rfl, List.append_nil]
  exact hacc2.ext hE6
 ·rintro m e A' ⟨e8, hE, z', gk, i, hi, rfl, e9, s, e7, hsp, hsm, hs⟩
  have gp' := gk.trans gp6
  simp (maxSteps := 2000000) (disch := first | omega | (simp only [AH.zN, AH.zP] <;> omega) | fail) only [amR Tryz.prog ro X, amS, seval, reduceCtorEq, ty3, ty4, ty9, ty22, ty27, ty29, ty42, ty43, ty45, ty79, ty154, ty156, ty157, ty159, e8, e9, gp', hmdl]
  refine CondB.split (fun h => ?_) (fun h => ?_)
  ·have hin : i < S.asked.length := by simp at h; omega
   obtain ⟨c1, c2, sn, y, m1, m2, m3, m4, m5, m6, m7, m8, m9, m10, _, _⟩ := v6.row (k := i) (by rw [rowsOf_len]; exact hin)
   have gm' := (hsm m1).2.trans m8
   have hc5 : cellK (md.o + i * 6 + 5) (A'.get md.b) = some (.bool y.2.2.2) := by
    rw [gm', m2, Nat.zero_add, cellK_mid m9 5 (by simp)]; rfl
   have hr1 : rowK (md.o + i * 6 + 1) 3 (A'.get md.b) = some [.int .i64 y.2.1.1, .string y.2.1.2.1, Sl.nil.v] := by
    rw [gm', m2, Nat.zero_add, rowK_mid m9 1 3 (by simp)]; rfl
   have htk : S.asked.take (i + 1) = S.asked.take i ++ [S.asked[i]] := List.take_succ_eq_append_getElem hin
   have hml := madeT_len S (S.asked.take i)
   rw [List.length_take] at hml
   have hy : y = rowOf S S.asked[i] := by rw [m7, rowsOf_get]
   cases hl : lookL S.asked[i] S.made with
   | none =>
     have hd : y.2.2.2 = false := by rw [hy, rowOf_done, hl]; rfl
     rw [hd] at hc5
     simp (maxSteps := 2000000) (disch := first | omega | (simp only [AH.zN, AH.zP] <;> omega) | fail) only [amR Tryz.prog ro X, amS, seval, reduceCtorEq, ty3, ty4, ty9, ty22, ty27, ty29, ty42, ty43, ty45, ty79, ty154, ty156, ty157, ty159, e8, e9, gp', m1, hc5]
     refine ⟨S.asked.length - (i + 1), by omega, hE, z', gp6.symm, i + 1, by omega, rfl, rfl, s, e7, hsp, fun _ => hsm m1, ?_⟩
     rw [htk, madeT_snoc, hl]
     simp only [List.append_nil]
     exact hs
   | some r =>
     have hok : ResOk r := hSok.res _ (lookL_mem hl)
     have hr2 : r.2.size ≤ 2000 := hok.2.2
     have hd : y.2.2.2 = true := by rw [hy, rowOf_done, hl]; rfl
     have hyr : y.2.1 = (r.1, r.2, .mk) := by rw [hy]; unfold rowOf; rw [hl]
     rw [hd] at hc5
     rw [hyr] at hr1
     simp only at hr1
     simp (maxSteps := 2000000) (disch := first | omega | (simp only [AH.zN, AH.zP] <;> omega) | fail) only [amR Tryz.prog ro X, amS, seval, reduceCtorEq, ty3, ty4, ty9, ty22, ty27, ty29, ty42, ty43, ty45, ty79, ty154, ty156, ty157, ty159, e7, e8, e9, gp', m1, hc5, hr1]
     refine (Form.specForm_a A' (by omega) r.1 r.2 Sl.nil [] [] (.nil rfl rfl rfl) (by omega)).mono ?_
     rintro R B2 ⟨rfl, hE2⟩
     have zB2 := hE2.size
     have hsz := formT_size hok
     rw [show formR r.1 r.2 [] = formT r from rfl]
     obtain ⟨s', B3, hap, hs', hg, hz5, hsb⟩ := (hs.ext hE2).lit (P := Tryz.prog) (ro := ro) (t := 22) (n := 1) (vs := [.string (formT r)]) (xs := [formT r]) (by omega) (by simp only [ty22]; rfl) rfl (Reps.one ⟨rfl, rfl, by unfold BIG; omega⟩) (.inr (by simp)) (by simp only [List.length_append]; omega) (by omega)
     rw [show Dat.w ByteArray = 1 from rfl] at hap
     simp (maxSteps := 2000000) (disch := first | omega | (simp only [AH.zN, AH.zP] <;> omega) | fail) only [amR Tryz.prog ro X, amS, seval, reduceCtorEq, ty3, ty4, ty9, ty22, ty27, ty29, ty42, ty43, ty45, ty79, ty154, ty156, ty157, ty159, e7, e8, e9, gp', m1, hc5, hr1, hap]
     refine ⟨S.asked.length - (i + 1), by omega, hg.ext (hE.trans hE2) (Nat.le_refl _), by omega, (hg.get _ (by omega) (.inr (fun e => hsp e.symm))).trans ((hE2.get _ (by omega)).trans gk), i + 1, by omega, rfl, rfl, s', rfl, ?_, fun _ => ⟨?_, (hg.get _ (by omega) (.inr (fun e => (hsm m1).1 e.symm))).trans ((hE2.get _ (by omega)).trans (hsm m1).2)⟩, ?_⟩
     ·rcases hsb with ⟨_, h⟩ | ⟨h, _⟩
      ·rw [h]; exact hsp
      ·omega
     ·rcases hsb with ⟨_, h⟩ | ⟨h, _⟩
      ·rw [h]; exact (hsm m1).1
      ·omega
     rw [htk, madeT_snoc, hl]
     show Acc _ _ _ (_ ++ (_ ++ [formT r])) _
     rw [← List.append_assoc]
     exact hs'
  ·have hin : i = S.asked.length := by simp at h; omega
   obtain ⟨G, hG, _⟩ := hs.slr
   subst hin
   rw [List.take_length] at hG
   simp (maxSteps := 2000000) (disch := first | omega | (simp only [AH.zN, AH.zP] <;> omega) | fail) only [amR Tryz.prog ro X, amS, seval, reduceCtorEq, ty3, ty4, ty9, ty22, ty27, ty29, ty42, ty43, ty45, ty79, ty154, ty156, ty157, ty159, e7]
   exact ⟨s, G, rfl, hG, hEH.trans hE⟩
set_option maxHeartbeats 4000000 in
theorem spec_a (A : AH) (hro : ro ≤ A.size) (t1 t2 : Sl) (x : TStore) (D1 D2 : List Nat) (hd1 : SlR A t1 x.2.1 D1) (hd2 : SlR A t2 x.2.2 D2) (hbx : ∀ r ∈ x.2.2, r.1.length < 281474976710656) (s1 s2 : Sl) (sp : TSpace) (F1 F2 : List Nat) (h1 : SlR A s1 sp.1 F1) (h2 : SlR A s2 sp.2 F2)
 (hl1' : sp.1.length < 1152921504606846976) (hl2' : sp.2.length < 1152921504606846976) (hb : ∀ t ∈ sp.2, t.2.length < 281474976710656) (n : ByteArray) :
 ACalls Tryz.prog ro X 14 [.agg #[.int .i64 x.1, t1.v, t2.v], .agg #[s1.v, s2.v], .string n] A (fun r A' => r = .ret (clashV (doubtR x sp n)) ∧ Ext A A') := by
 refine ACalls.enterQ (rs := [.tmp 6, .tmp 7, .tmp 8]) Tryz.func14 rfl (by kernel_rfl) rfl ?_
 simp (maxSteps := 2000000) (disch := first | omega | (simp only [AH.zN, AH.zP] <;> omega) | fail) only [amR Tryz.prog ro X, amS, seval, reduceCtorEq, ty3, ty4, ty9, ty22, ty27, ty29, ty42, ty43, ty45, ty79, ty154]
 generalize hH : AH.new (A.new _) _ = H
 have zH : H.size = A.size + 2 := by rw [← hH]; rfl
 have hEH : Ext A H := by rw [← hH]; exact (by ((repeat' (first | exact Ext.refl _ | assumption | refine Ext.trans ?_ (Ext.new _ _) | refine Ext.put ?_ ?_ _ | refine Ext.trans ?_ (by assumption))) <;> (first | omega | (simp only [AH.zN, AH.zP] <;> omega))))
 have gt : H.get A.size = .cells [.int .i64 x.1, t1.v, t2.v] 3 := by rw [← hH]; simp (maxSteps := 2000000) (disch := first | omega | (simp only [AH.zN, AH.zP] <;> omega) | fail) only [amV, amH, amQ, amL, amN Tryz.prog, amS, seval, reduceCtorEq, ty3, ty4, ty9, ty22, ty27, ty29, ty42, ty43, ty45, ty79, ty154]
 have ga : H.get (A.size + 1) = .cells [s1.v, s2.v] 2 := by rw [← hH]; simp (maxSteps := 2000000) (disch := first | omega | (simp only [AH.zN, AH.zP] <;> omega) | fail) only [amV, amH, amQ, amL, amN Tryz.prog, amS, seval, reduceCtorEq, ty3, ty4, ty9, ty22, ty27, ty29, ty42, ty43, ty45, ty79, ty154]
 clear hH
 refine (Store.specStore_a H (by omega) t1 t2 x D1 D2 (hd1.ext hEH) (hd2.ext hEH) hbx).mono ?_
 rintro r H0 ⟨rfl, hE0⟩
 have z0 := hE0.size
 have hEA0 := hEH.trans hE0
 have gt0 := (hE0.get A.size (by omega)).trans gt
 have ga0 := (hE0.get (A.size + 1) (by omega)).trans ga
 by_cases k0 : StoreOk x
 case neg =>
  simp (maxSteps := 2000000) (disch := first | omega | (simp only [AH.zN, AH.zP] <;> omega) | fail) only [amR Tryz.prog ro X, amS, seval, reduceCtorEq, ty3, ty4, ty9, ty22, ty27, ty29, ty42, ty43, ty45, ty79, ty154, gt0, ga0, k0]
  exact ⟨by rw [doubtR, if_pos (.inl k0)]; rfl, hEA0⟩
 simp (maxSteps := 2000000) (disch := first | omega | (simp only [AH.zN, AH.zP] <;> omega) | fail) only [amR Tryz.prog ro X, amS, seval, reduceCtorEq, ty3, ty4, ty9, ty22, ty27, ty29, ty42, ty43, ty45, ty79, ty154, gt0, ga0, k0]
 refine (Space.specCheck_a H0 (by omega) s1 s2 sp F1 F2 (h1.ext hEA0) (h2.ext hEA0) hl1' hl2' hb).mono ?_
 rintro r H1 ⟨rfl, hE1⟩
 have z1 := hE1.size
 have hEA1 := hEA0.trans hE1
 have gt1 := (hE1.get A.size (by omega)).trans gt0
 have ga1 := (hE1.get (A.size + 1) (by omega)).trans ga0
 by_cases k1 : spaceCode sp = 0
 case neg =>
  simp (maxSteps := 2000000) (disch := first | omega | (simp only [AH.zN, AH.zP] <;> omega) | fail) only [amR Tryz.prog ro X, amS, seval, reduceCtorEq, ty3, ty4, ty9, ty22, ty27, ty29, ty42, ty43, ty45, ty79, ty154, gt1, ga1, k1]
  exact ⟨by rw [doubtR, if_pos (.inr (.inl k1))]; rfl, hEA1⟩
 simp (maxSteps := 2000000) (disch := first | omega | (simp only [AH.zN, AH.zP] <;> omega) | fail) only [amR Tryz.prog ro X, amS, seval, reduceCtorEq, ty3, ty4, ty9, ty22, ty27, ty29, ty42, ty43, ty45, ty79, ty154, gt1, ga1, k1]
 refine (Store.spec.l2NameOk_a _ n).mono ?_
 rintro r H1 ⟨rfl, rfl⟩
 by_cases k2 : NameOk n
 case neg =>
  simp (maxSteps := 2000000) (disch := first | omega | (simp only [AH.zN, AH.zP] <;> omega) | fail) only [amR Tryz.prog ro X, amS, seval, reduceCtorEq, ty3, ty4, ty9, ty22, ty27, ty29, ty42, ty43, ty45, ty79, ty154, gt1, ga1, k2]
  exact ⟨by rw [doubtR, if_pos (.inr (.inr k2))]; rfl, hEA1⟩
 have hf := spaceFine k1
 have hres : doubtR x sp n = clashL (doubtT x sp n) x.1 := if_neg (by rintro (h | h | h); exact h k0; exact h k1; exact h k2)
 rw [hres]
 simp (maxSteps := 2000000) (disch := first | omega | (simp only [AH.zN, AH.zP] <;> omega) | fail) only [amR Tryz.prog ro X, amS, seval, reduceCtorEq, ty3, ty4, ty9, ty22, ty27, ty29, ty42, ty43, ty45, ty79, ty154, gt1, ga1, k2]
 have hT5 := k0.2.1
 refine (texts_a H1 (by omega) t1 t2 x D1 D2 (hd1.ext hEA1) (hd2.ext hEA1) s1 s2 sp F1 F2 (h1.ext hEA1) (h2.ext hEA1) hf n k2 hT5).mono ?_
 rintro r H2 ⟨s, F, rfl, hs, hE2⟩
 have z2 := hE2.size
 have gt2 := (hE2.get A.size (by omega)).trans gt1
 have hEA2 := hEA1.trans hE2
 have hlenT : (doubtT x sp n).length ≤ 105002 ∧ x.2.1.length ≤ (doubtT x sp n).length := by
  have h3 := asked_few hf k2
  have h4 := madeT_len (cleanS sp n).1 (cleanS sp n).1.asked
  have h5 : litT.length = 2 := rfl
  unfold doubtT
  simp only [List.length_append]
  omega
 have hpass : clashL (doubtT x sp n) x.1 = clashGo x.1 ((doubtT x sp n).take x.2.1.length) ((doubtT x sp n).drop x.2.1.length) := by
  unfold doubtT
  rw [List.append_assoc, doubt_pass k0, List.take_left, List.drop_left]
 generalize doubtT x sp n = T at *
 have hdl := hd1.len
 have hsl := hs.len
 simp (maxSteps := 2000000) (disch := first | omega | (simp only [AH.zN, AH.zP] <;> omega) | fail) only [amR Tryz.prog ro X, amS, seval, reduceCtorEq, ty3, ty4, ty9, ty22, ty27, ty29, ty42, ty43, ty45, ty79, ty154]
 refine Wp.loopC (fun m e A' => e 3 = .pointer (some ⟨A.size, 0, none⟩) ∧ e 9 = s.v ∧ Ext H2 A' ∧ ∃ i : Nat, i ≤ T.length ∧ m = T.length - i ∧ e 11 = .int .i64 i ∧ ∃ s2 : Sl, e 10 = s2.v ∧ Acc H2.size A' s2 ((T.take i).map fun y => sumS y x.1) []) (T.length - 0) ?_ ?_
 ·simp (maxSteps := 2000000) (disch := first | omega | (simp only [AH.zN, AH.zP] <;> omega) | fail) only [amV, amH, amQ, amL, amN Tryz.prog, amS, seval, reduceCtorEq, ty3, ty4, ty9, ty22, ty27, ty29, ty42, ty43, ty45, ty79, ty154]
  exact ⟨Ext.new _ _, 0, by omega, rfl, rfl, _, rfl, .empty _ _⟩
 ·rintro m e A' ⟨e3, e9, hE, i, hi, rfl, e11, s3, e10, hs3⟩
  have z' := hE.size
  have gt' := (hE.get A.size (by omega)).trans gt2
  simp (maxSteps := 2000000) (disch := first | omega | (simp only [AH.zN, AH.zP] <;> omega) | fail) only [amR Tryz.prog ro X, amS, seval, reduceCtorEq, ty3, ty4, ty9, ty22, ty27, ty29, ty42, ty43, ty45, ty79, ty154, e9, e11, hsl]
  refine CondB.split (fun h => ?_) (fun h => ?_)
  ·have hin : i < T.length := by simp at h; omega
   obtain ⟨n1, b1, m1, i1, c1, q1⟩ := (hs.ext hE).str hin
   rw [aCell_eq] at c1
   unfold BIG at q1
   simp (maxSteps := 2000000) (disch := first | omega | (simp only [AH.zN, AH.zP] <;> omega) | fail) only [amR Tryz.prog ro X, amS, seval, reduceCtorEq, ty3, ty4, ty9, ty22, ty27, ty29, ty42, ty43, ty45, ty79, ty154]
   refine Wp.runG [7] (by kernel_rfl) (.inr (by intro v e A h; simp only [amK, amQ, thenQ, blockQ, endQ, reduceCtorEq, false_and, exists_false] at h)) ?_
   simp (maxSteps := 2000000) (disch := first | omega | (simp only [AH.zN, AH.zP] <;> omega) | fail) only [amR Tryz.prog ro X, amS, seval, reduceCtorEq, ty3, ty4, ty9, ty22, ty27, ty29, ty42, ty43, ty45, ty79, ty154, e3, e9, e10, e11, n1, c1, gt']
   refine (Sum.spec_a A' (by omega) T[i] x.1 (by omega)).mono ?_
   rintro r B ⟨rfl, hEB⟩
   have zB := hEB.size
   have hsz := sumS_le T[i] x.1
   obtain ⟨s', B3, hap, hs', hg, hz5, _⟩ := (hs3.ext hEB).lit (P := Tryz.prog) (ro := ro) (t := 22) (n := 1) (vs := [.string (sumS T[i] x.1)]) (xs := [sumS T[i] x.1]) (by omega) (by simp only [ty22]; rfl) rfl (Reps.one ⟨rfl, rfl, by unfold BIG; omega⟩) (.inr (by simp)) (by simp; omega) (by omega)
   rw [show Dat.w ByteArray = 1 from rfl] at hap
   simp (maxSteps := 2000000) (disch := first | omega | (simp only [AH.zN, AH.zP] <;> omega) | fail) only [amR Tryz.prog ro X, amS, seval, reduceCtorEq, ty3, ty4, ty9, ty22, ty27, ty29, ty42, ty43, ty45, ty79, ty154, e3, e9, e10, e11, n1, c1, gt', hap]
   refine ⟨fun b hb => hEB.get b hb, T.length - (i + 1), by omega, hg.ext (hE.trans hEB) (Nat.le_refl _), i + 1, by omega, rfl, rfl, s', rfl, ?_⟩
   rw [List.take_succ_eq_append_getElem hin, List.map_append]
   exact hs'
  ·have hin : i = T.length := by simp at h; omega
   obtain ⟨F3, hF3, _⟩ := hs3.slr
   subst hin
   rw [List.take_length] at hF3
   simp (maxSteps := 2000000) (disch := first | omega | (simp only [AH.zN, AH.zP] <;> omega) | fail) only [amR Tryz.prog ro X, amS, seval, reduceCtorEq, ty3, ty4, ty9, ty22, ty27, ty29, ty42, ty43, ty45, ty79, ty154, e3, gt', hdl]
   refine Wp.loopC (fun m e A2 => A2 = A' ∧ e 9 = s.v ∧ e 10 = s3.v ∧ ∃ j : Nat, x.2.1.length ≤ j ∧ j ≤ T.length ∧ m = T.length - j ∧ e 12 = .int .i64 j ∧ clashGo x.1 (T.take j) (T.drop j) = clashL T x.1) (T.length - x.2.1.length) ?_ ?_
   ·simp (maxSteps := 2000000) (disch := first | omega | (simp only [AH.zN, AH.zP] <;> omega) | fail) only [amV, amH, amQ, amL, amN Tryz.prog, amS, seval, reduceCtorEq, ty3, ty4, ty9, ty22, ty27, ty29, ty42, ty43, ty45, ty79, ty154, e9, e10]
    exact ⟨x.2.1.length, by omega, by omega, rfl, rfl, hpass.symm⟩
   ·rintro m e A' ⟨rfl, e9, e10, j, hj1, hj2, rfl, e12, hgo⟩
    simp (maxSteps := 2000000) (disch := first | omega | (simp only [AH.zN, AH.zP] <;> omega) | fail) only [amR Tryz.prog ro X, amS, seval, reduceCtorEq, ty3, ty4, ty9, ty22, ty27, ty29, ty42, ty43, ty45, ty79, ty154, e9, e12, hsl]
    refine CondB.split (fun h => ?_) (fun h => ?_)
    ·have hjn : j < T.length := by simp at h; omega
     have hd : T.drop j = T[j] :: T.drop (j + 1) := List.drop_eq_getElem_cons hjn
     rw [hd, clashGo] at hgo
     simp (maxSteps := 2000000) (disch := first | omega | (simp only [AH.zN, AH.zP] <;> omega) | fail) only [amR Tryz.prog ro X, amS, seval, reduceCtorEq, ty3, ty4, ty9, ty22, ty27, ty29, ty42, ty43, ty45, ty79, ty154, e9, e10, e12]
     refine Wp.loopC (fun m e A3 => A3 = A' ∧ e 9 = s.v ∧ e 10 = s3.v ∧ e 12 = .int .i64 j ∧ ∃ i : Nat, i ≤ j ∧ m = j - i ∧ e 13 = .int .i64 i ∧ other x.1 ((T.take j).take i) T[j] = none) (j - 0) ?_ ?_
     ·simp (maxSteps := 2000000) (disch := first | omega | (simp only [AH.zN, AH.zP] <;> omega) | fail) only [amV, amH, amQ, amL, amN Tryz.prog, amS, seval, reduceCtorEq, ty3, ty4, ty9, ty22, ty27, ty29, ty42, ty43, ty45, ty79, ty154, e9, e10, e12]
      exact ⟨0, by omega, rfl, rfl, rfl⟩
     ·rintro m e A' ⟨rfl, e9, e10, e12, i, hi, rfl, e13, hoi⟩
      simp (maxSteps := 2000000) (disch := first | omega | (simp only [AH.zN, AH.zP] <;> omega) | fail) only [amR Tryz.prog ro X, amS, seval, reduceCtorEq, ty3, ty4, ty9, ty22, ty27, ty29, ty42, ty43, ty45, ty79, ty154, e12, e13]
      refine CondB.split (fun h => ?_) (fun h => ?_)
      ·have hij : i < j := by simp at h; omega
       obtain ⟨n2, b2, m2, i2, c2, q2⟩ := (hs.ext hE).str (i := i) (by omega)
       obtain ⟨n3, b3, m3, i3, c3, q3⟩ := (hs.ext hE).str hjn
       obtain ⟨n4, b4, m4, i4, c4, q4⟩ := hF3.str (i := i) (by simp; omega)
       obtain ⟨n5, b5, m5, i5, c5, q5⟩ := hF3.str (i := j) (by simp; omega)
       rw [aCell_eq] at c2 c3 c4 c5
       rw [List.getElem_map] at c4 c5
       have hti : (T.take j).take (i + 1) = (T.take j).take i ++ [T[i]] := by rw [List.take_succ_eq_append_getElem (by simp; omega)]; simp
       simp (maxSteps := 2000000) (disch := first | omega | (simp only [AH.zN, AH.zP] <;> omega) | fail) only [amR Tryz.prog ro X, amS, seval, reduceCtorEq, ty3, ty4, ty9, ty22, ty27, ty29, ty42, ty43, ty45, ty79, ty154]
       refine Wp.runG [] (by kernel_rfl) (.inl (by kernel_rfl)) ?_
       by_cases hs1 : sumS T[i] x.1 = sumS T[j] x.1
       ·by_cases hne : T[i] = T[j]
        ·simp (maxSteps := 2000000) (disch := first | omega | (simp only [AH.zN, AH.zP] <;> omega) | fail) only [amR Tryz.prog ro X, amS, seval, reduceCtorEq, ty3, ty4, ty9, ty22, ty27, ty29, ty42, ty43, ty45, ty79, ty154, e9, e10, e12, e13, n2, n4, c2, c3, c4, c5, hs1, hne]
         refine ⟨j - (i + 1), by omega, i + 1, by omega, rfl, by simp, ?_⟩
         rw [hti]
         simp only [other, List.find?_append, Option.or_eq_none_iff] at hoi ⊢
         exact ⟨hoi, by simp [hne]⟩
        ·simp (maxSteps := 2000000) (disch := first | omega | (simp only [AH.zN, AH.zP] <;> omega) | fail) only [amR Tryz.prog ro X, amS, seval, reduceCtorEq, ty3, ty4, ty9, ty22, ty27, ty29, ty42, ty43, ty45, ty79, ty154, e9, e10, e12, e13, n2, n4, c2, c3, c4, c5, hs1, hne]
         refine Wp.runG [] (by kernel_rfl) (.inl (by kernel_rfl)) ?_
         simp (maxSteps := 2000000) (disch := first | omega | (simp only [AH.zN, AH.zP] <;> omega) | fail) only [amR Tryz.prog ro X, amS, seval, reduceCtorEq, ty3, ty4, ty9, ty22, ty27, ty29, ty42, ty43, ty45, ty79, ty154, e9, e10, e12, e13, n2, n4, c2, c3, c4, c5, hs1, hne]
         refine ⟨?_, hEA2.trans hE⟩
         have hfind : other x.1 (T.take j) T[j] = some T[i] := by
          have hsp : T.take j = (T.take j).take (i + 1) ++ (T.take j).drop (i + 1) := (List.take_append_drop _ _).symm
          rw [hsp, hti]
          simp only [other, List.find?_append] at hoi ⊢
          rw [hoi]
          simp [hs1, hne]
         rw [hfind] at hgo
         rw [← hgo]
         rfl
       ·simp (maxSteps := 2000000) (disch := first | omega | (simp only [AH.zN, AH.zP] <;> omega) | fail) only [amR Tryz.prog ro X, amS, seval, reduceCtorEq, ty3, ty4, ty9, ty22, ty27, ty29, ty42, ty43, ty45, ty79, ty154, e9, e10, e12, e13, n2, n4, c2, c3, c4, c5, hs1]
        refine ⟨j - (i + 1), by omega, i + 1, by omega, rfl, by simp, ?_⟩
        rw [hti]
        simp only [other, List.find?_append, Option.or_eq_none_iff] at hoi ⊢
        exact ⟨hoi, by simp [hs1]⟩
      ·have hij : i = j := by simp at h; omega
       subst hij
       rw [List.take_take, Nat.min_self] at hoi
       rw [hoi] at hgo
       simp (maxSteps := 2000000) (disch := first | omega | (simp only [AH.zN, AH.zP] <;> omega) | fail) only [amR Tryz.prog ro X, amS, seval, reduceCtorEq, ty3, ty4, ty9, ty22, ty27, ty29, ty42, ty43, ty45, ty79, ty154, e9, e10, e12]
       exact ⟨T.length - (i + 1), by omega, i + 1, by omega, by omega, rfl, rfl, by rw [List.take_succ_eq_append_getElem hjn]; exact hgo⟩
    ·have hjn : j = T.length := by simp at h; omega
     subst hjn
     rw [List.drop_length] at hgo
     simp (maxSteps := 2000000) (disch := first | omega | (simp only [AH.zN, AH.zP] <;> omega) | fail) only [amR Tryz.prog ro X, amS, seval, reduceCtorEq, ty3, ty4, ty9, ty22, ty27, ty29, ty42, ty43, ty45, ty79, ty154]
     refine ⟨?_, hEA2.trans hE⟩
     rw [← hgo]
     rfl
end Go.Proofs.YtmelgjblkmbhjaaGreatDoor.Amu.Sdoubt
