import Derived.Test.YtmelgjblkmbhjaaGreatDoorAmuTy
import Derived.Test.YtmelgjblkmbhjaaGreatDoorAmMake
import Derived.Test.YtmelgjblkmbhjaaGreatDoorAmuProg
namespace Go.Proofs.YtmelgjblkmbhjaaGreatDoor.Amu.NewM
open Go Go.AM Go.Proofs
set_option linter.all false
open Ty
variable {ro : Nat} {X : FuncId → List Value → AH → ARes → AH → Prop} {σ : Type}
set_option maxRecDepth 10000
theorem lookL_fresh {α : Type} {l : List (ByteArray × α)} (h : (l.map (·.1)).Nodup) {i : Nat} (hi : i < l.length) : lookL l[i].1 (l.take i) = none := by
 cases hl : lookL l[i].1 (l.take i) with
 | none => rfl
 | some r =>
   have hm := lookL_mem hl
   have h2 : ((l.take i).map (·.1) ++ (l.drop i).map (·.1)).Nodup := by rw [← List.map_append, List.take_append_drop]; exact h
   exact ((List.nodup_append.1 h2).2.2 _ (List.mem_map.2 ⟨_, hm, rfl⟩) _ (by rw [List.drop_eq_getElem_cons hi, List.map_cons]; exact List.mem_cons_self) rfl).elim
theorem lookL_step {α : Type} {l : List (ByteArray × α)} (h : (l.map (·.1)).Nodup) {i : Nat} (hi : i < l.length) (n : ByteArray) : lookL n (l.take (i + 1)) = if n = l[i].1 then some l[i].2 else lookL n (l.take i) := by
 rw [List.take_succ_eq_append_getElem hi, show [l[i]] = [(l[i].1, l[i].2)] from rfl, lookL_snoc]
 by_cases e : n = l[i].1
 ·subst e; rw [lookL_fresh h hi]
 ·have e' : ¬ l[i].1 = n := fun k => e k.symm
  simp only [e, e', if_false]
  cases lookL n (l.take i) <;> rfl
set_option maxHeartbeats 4000000 in
theorem new_a (A : AH) (hro : ro ≤ A.size) (s1 s2 : Sl) (sp : TSpace) (F1 F2 : List Nat) (h1 : SlR A s1 sp.1 F1) (h2 : SlR A s2 sp.2 F2) (hs1 : sp.1.length ≤ 200) (hs2 : sp.2.length ≤ 200) (hn1 : (sp.1.map (·.1)).Nodup) (hn2 : (sp.2.map (·.1)).Nodup) (x0 : σ) :
 ACalls Tryz.prog ro X 46 [.agg #[s1.v, s2.v]] A (fun r A' => ∃ K : Mkc, r = .ret (.pointer (some ⟨K.p, 0, none⟩)) ∧ Ext A A' ∧ K.sp = sp ∧ K.B = A ∧ K.top ≤ A'.size ∧ K.fv = .func (.func 93) #[] #[.pointer (some ⟨K.cv, 0, none⟩)] ∧
  MkV K (fun _ _ F => F = []) A' ⟨[], [], [], x0⟩ .nil .nil [] [] []) := by
 refine ACalls.enterQ (rs := [.tmp 2]) Tryz.func46 rfl (by kernel_rfl) rfl ?_
 have hl1 := h1.len
 have hl2 := h2.len
 simp (maxSteps := 2000000) (disch := first | omega | (simp only [AH.zN, AH.zP] <;> omega) | fail) only [amR Tryz.prog ro X, amS, seval, reduceCtorEq, ty3, ty9, ty22, ty42, ty43, ty45, ty56, ty58, ty76, ty81, ty82, ty83, ty84, ty85, ty87, ty147, ty149]
 generalize hA0 : ((((((((A.new (.cells [s1.v, s2.v] 2)).new (.map [])).new (.map [])).new (.map [])).new (.map [])).new (.cells _ 7)).new _).put _ _) = A0
 have z0 : A0.size = A.size + 7 := by rw [← hA0]; rfl
 have hE0 : Ext A A0 := by rw [← hA0]; exact (by ((repeat' (first | exact Ext.refl _ | assumption | refine Ext.trans ?_ (Ext.new _ _) | refine Ext.put ?_ ?_ _ | refine Ext.trans ?_ (by assumption))) <;> (first | omega | (simp only [AH.zN, AH.zP] <;> omega))))
 have gs : A0.get (A.size) = .cells [s1.v, s2.v] 2 := by rw [← hA0]; simp (maxSteps := 2000000) (disch := first | omega | (simp only [AH.zN, AH.zP] <;> omega) | fail) only [amV, amH, amQ, amL, amN Tryz.prog, amS, seval, reduceCtorEq, ty3, ty9, ty22, ty42, ty43, ty45, ty56, ty58, ty76, ty81, ty82, ty83, ty84, ty85, ty87, ty147, ty149]
 have gm1 : A0.get (A.size + 1) = .map [] := by rw [← hA0]; simp (maxSteps := 2000000) (disch := first | omega | (simp only [AH.zN, AH.zP] <;> omega) | fail) only [amV, amH, amQ, amL, amN Tryz.prog, amS, seval, reduceCtorEq, ty3, ty9, ty22, ty42, ty43, ty45, ty56, ty58, ty76, ty81, ty82, ty83, ty84, ty85, ty87, ty147, ty149]
 have gm2 : A0.get (A.size + 1 + 1) = .map [] := by rw [← hA0]; simp (maxSteps := 2000000) (disch := first | omega | (simp only [AH.zN, AH.zP] <;> omega) | fail) only [amV, amH, amQ, amL, amN Tryz.prog, amS, seval, reduceCtorEq, ty3, ty9, ty22, ty42, ty43, ty45, ty56, ty58, ty76, ty81, ty82, ty83, ty84, ty85, ty87, ty147, ty149]
 have gm3 : A0.get (A.size + 1 + 1 + 1) = .map [] := by rw [← hA0]; simp (maxSteps := 2000000) (disch := first | omega | (simp only [AH.zN, AH.zP] <;> omega) | fail) only [amV, amH, amQ, amL, amN Tryz.prog, amS, seval, reduceCtorEq, ty3, ty9, ty22, ty42, ty43, ty45, ty56, ty58, ty76, ty81, ty82, ty83, ty84, ty85, ty87, ty147, ty149]
 have gm4 : A0.get (A.size + 1 + 1 + 1 + 1) = .map [] := by rw [← hA0]; simp (maxSteps := 2000000) (disch := first | omega | (simp only [AH.zN, AH.zP] <;> omega) | fail) only [amV, amH, amQ, amL, amN Tryz.prog, amS, seval, reduceCtorEq, ty3, ty9, ty22, ty42, ty43, ty45, ty56, ty58, ty76, ty81, ty82, ty83, ty84, ty85, ty87, ty147, ty149]
 have gp : A0.get (A.size + 1 + 1 + 1 + 1 + 1) = .cells [.map (some (A.size + 1)), .map (some (A.size + 1 + 1)), .map (some (A.size + 1 + 1 + 1)), Sl.nil.v, .map (some (A.size + 1 + 1 + 1 + 1)), Sl.nil.v, .nilFunc] 7 := by rw [← hA0]; simp (maxSteps := 2000000) (disch := first | omega | (simp only [AH.zN, AH.zP] <;> omega) | fail) only [amV, amH, amQ, amL, amN Tryz.prog, amS, seval, reduceCtorEq, ty3, ty9, ty22, ty42, ty43, ty45, ty56, ty58, ty76, ty81, ty82, ty83, ty84, ty85, ty87, ty147, ty149]
 have gc : A0.get (A.size + 1 + 1 + 1 + 1 + 1 + 1) = .cells [.pointer (some ⟨A.size + 1 + 1 + 1 + 1 + 1, 0, none⟩)] 1 := by rw [← hA0]; simp (maxSteps := 2000000) (disch := first | omega | (simp only [AH.zN, AH.zP] <;> omega) | fail) only [amV, amH, amQ, amL, amN Tryz.prog, amS, seval, reduceCtorEq, ty3, ty9, ty22, ty42, ty43, ty45, ty56, ty58, ty76, ty81, ty82, ty83, ty84, ty85, ty87, ty147, ty149]
 clear hA0
 refine Wp.loopC (fun k e H => ExtX [A.size + 1] A0 H ∧ e 1 = .pointer (some ⟨A.size, 0, none⟩) ∧ e 3 = .pointer (some ⟨A.size + 1 + 1 + 1 + 1 + 1 + 1, 0, none⟩) ∧ e 15 = s1.v ∧ e 16 = .int .i64 sp.1.length ∧
  ∃ i : Nat, i ≤ sp.1.length ∧ k = sp.1.length - i ∧ e 17 = .int .i64 i ∧ ∃ es, H.get (A.size + 1) = .map (mp es) ∧ ∀ n, lk es n = (lookL n (sp.1.take i)).map Value.string) (sp.1.length - 0) ?_ ?_
 ·simp (disch := first | omega | fail) only [amV, amH, amQ, amL, amN Tryz.prog, amS, seval, reduceCtorEq, ty3, ty9, ty22, ty42, ty43, ty45, ty56, ty58, ty76, ty81, ty82, ty83, ty84, ty85, ty87, ty147, ty149, hl1]
  exact ⟨ExtX.refl _ _, 0, by omega, rfl, rfl, [], gm1, fun n => rfl⟩
 rintro k e H ⟨hX, e1, e3, e15, e16, i, hi, rfl, eI, es, gm, hm⟩
 have zH := hX.size
 have hEH : Ext A H := ⟨by omega, fun b hb => (hX.get b (by omega) (by simp; omega)).trans (hE0.get b hb)⟩
 have gcH := (hX.get (A.size + 1 + 1 + 1 + 1 + 1 + 1) (by omega) (by simp; omega)).trans gc
 have gpH := (hX.get (A.size + 1 + 1 + 1 + 1 + 1) (by omega) (by simp; omega)).trans gp
 have gsH := (hX.get A.size (by omega) (by simp)).trans gs
 simp (disch := first | omega | fail) only [amR Tryz.prog ro X, amS, seval, reduceCtorEq, ty3, ty9, ty22, ty42, ty43, ty45, ty56, ty58, ty76, ty81, ty82, ty83, ty84, ty85, ty87, ty147, ty149, e1, e3, e15, e16, eI]
 refine CondB.split (fun h => ?_) (fun h => ?_)
 ·have hil : i < sp.1.length := by simpa using h
  obtain ⟨c, n1, b1, i1, c1, c2, c3, c4, q1, q2⟩ := (h1.ext hEH).source hil
  have hr : rowK (s1.o + i * 2) 2 (H.get s1.b) = some [.string sp.1[i].1, .string sp.1[i].2] := by rw [c1]; exact c4
  simp (disch := first | omega | fail) only [amR Tryz.prog ro X, amS, seval, reduceCtorEq, ty3, ty9, ty22, ty42, ty43, ty45, ty56, ty58, ty76, ty81, ty82, ty83, ty84, ty85, ty87, ty147, ty149, e1, e3, e15, e16, eI, n1, hr]
  refine Wp.runG [] (by kernel_rfl) (.inl (by kernel_rfl)) ?_
  have hset := mset (P := Tryz.prog) (ro := ro) (A := (H.new (.cells [.string ByteArray.empty, .string ByteArray.empty] 2)).put H.size (.cells [.string sp.1[i].1, .string sp.1[i].2] 2)) (t := 81) (e := 9) (es := es) (b := A.size + 1) (by simp only [ty81]) (by rw [AH.gPo (by omega), AH.gNo (by omega)]; exact gm) (by omega) sp.1[i].1 (v := .string sp.1[i].2) rfl
  simp (disch := first | omega | fail) only [amR Tryz.prog ro X, amS, seval, reduceCtorEq, ty3, ty9, ty22, ty42, ty43, ty45, ty56, ty58, ty76, ty81, ty82, ty83, ty84, ty85, ty87, ty147, ty149, e1, e3, e15, e16, eI, gcH, gpH, hset]
  refine ⟨sp.1.length - (i + 1), by omega, ⟨by simp only [AH.zP, AH.zN]; omega, fun b hb hn => by rw [AH.gPo (by simpa using hn), AH.gPo (by omega), AH.gNo (by omega)]; exact hX.get b hb hn⟩, i + 1, by omega, rfl, by simp, _, rfl, fun n => ?_⟩
  rw [lk_kset, hm, lookL_step hn1 hil]
  by_cases e : n = sp.1[i].1
  ·simp [e]
  ·simp [e]
 have hil : i = sp.1.length := by simp at h; omega
 subst hil
 rw [List.take_length] at hm
 have hl2' : s2.len = sp.2.length := hl2
 clear e15 e16 eI gsH gcH gpH
 have gs1 := (hX.get A.size (by omega) (by simp)).trans gs
 have gc1 := (hX.get (A.size + 1 + 1 + 1 + 1 + 1 + 1) (by omega) (by simp; omega)).trans gc
 have gp1 := (hX.get (A.size + 1 + 1 + 1 + 1 + 1) (by omega) (by simp; omega)).trans gp
 have gm21 := (hX.get (A.size + 1 + 1) (by omega) (by simp only [List.mem_singleton]; omega)).trans gm2
 have gm31 := (hX.get (A.size + 1 + 1 + 1) (by omega) (by simp only [List.mem_singleton]; omega)).trans gm3
 have gm41 := (hX.get (A.size + 1 + 1 + 1 + 1) (by omega) (by simp only [List.mem_singleton]; omega)).trans gm4
 simp (disch := first | omega | fail) only [amR Tryz.prog ro X, amS, seval, reduceCtorEq, ty3, ty9, ty22, ty42, ty43, ty45, ty56, ty58, ty76, ty81, ty82, ty83, ty84, ty85, ty87, ty147, ty149, e1, e3, gs1, hl2]
 refine Wp.loopC (fun k e H1 => ExtX [A.size + 1 + 1] H H1 ∧ e 1 = .pointer (some ⟨A.size, 0, none⟩) ∧ e 3 = .pointer (some ⟨A.size + 1 + 1 + 1 + 1 + 1 + 1, 0, none⟩) ∧ e 31 = s2.v ∧ e 32 = .int .i64 sp.2.length ∧
  ∃ i : Nat, i ≤ sp.2.length ∧ k = sp.2.length - i ∧ e 33 = .int .i64 i ∧ ∃ es, H1.get (A.size + 1 + 1) = .map (mp es) ∧ ∀ n, (lookL n (sp.2.take i) = none → lk es n = none) ∧ ∀ q, lookL n (sp.2.take i) = some q → ∃ s F, lk es n = some (.agg #[s.v]) ∧ SlR A s q F) (sp.2.length - 0) ?_ ?_
 ·simp (disch := first | omega | fail) only [amV, amH, amQ, amL, amN Tryz.prog, amS, seval, reduceCtorEq, ty3, ty9, ty22, ty42, ty43, ty45, ty56, ty58, ty76, ty81, ty82, ty83, ty84, ty85, ty87, ty147, ty149, hl2]
  exact ⟨ExtX.refl _ _, e1, e3, 0, by omega, rfl, rfl, [], gm21, fun n => ⟨fun _ => rfl, fun q hq => by cases hq⟩⟩
 rintro k f H1 ⟨hX1, f1, f3, f31, f32, i, hi, rfl, fI, es2, gn, hm2⟩
 have zH1 := hX1.size
 have hEH1 : Ext A H1 := ⟨by omega, fun b hb => (hX1.get b (by omega) (by simp; omega)).trans (hEH.get b hb)⟩
 have gc2 := (hX1.get (A.size + 1 + 1 + 1 + 1 + 1 + 1) (by omega) (by simp; omega)).trans gc1
 have gp2 := (hX1.get (A.size + 1 + 1 + 1 + 1 + 1) (by omega) (by simp; omega)).trans gp1
 simp (disch := first | omega | fail) only [amR Tryz.prog ro X, amS, seval, reduceCtorEq, ty3, ty9, ty22, ty42, ty43, ty45, ty56, ty58, ty76, ty81, ty82, ty83, ty84, ty85, ty87, ty147, ty149, f1, f3, f31, f32, fI]
 refine CondB.split (fun h => ?_) (fun h => ?_)
 ·have hil : i < sp.2.length := by simpa using h
  obtain ⟨c, t, G, n1, b1, i1, c1, c2, c3, c4, q1, q2, q3, q4⟩ := h2.target hil
  have hr : rowK (s2.o + i * 2) 2 (H1.get s2.b) = some [.string sp.2[i].1, t.v] := by rw [hEH1.get _ b1, c1]; exact c4
  simp (disch := first | omega | fail) only [amR Tryz.prog ro X, amS, seval, reduceCtorEq, ty3, ty9, ty22, ty42, ty43, ty45, ty56, ty58, ty76, ty81, ty82, ty83, ty84, ty85, ty87, ty147, ty149, f1, f3, f31, f32, fI, n1, hr]
  refine Wp.runG [] (by kernel_rfl) (.inl (by kernel_rfl)) ?_
  have hset := mset (P := Tryz.prog) (ro := ro) (A := (H1.new (.cells [.string ByteArray.empty, Sl.nil.v] 2)).put H1.size (.cells [.string sp.2[i].1, t.v] 2)) (t := 82) (e := 58) (es := es2) (b := A.size + 1 + 1) (by simp only [ty82]) (by rw [AH.gPo (by omega), AH.gNo (by omega)]; exact gn) (by omega) sp.2[i].1 (v := .agg #[t.v]) rfl
  simp (disch := first | omega | fail) only [amR Tryz.prog ro X, amS, seval, reduceCtorEq, ty3, ty9, ty22, ty42, ty43, ty45, ty56, ty58, ty76, ty81, ty82, ty83, ty84, ty85, ty87, ty147, ty149, f1, f3, f31, f32, fI, gc2, gp2, hset]
  refine ⟨sp.2.length - (i + 1), by omega, ⟨by simp only [AH.zP, AH.zN]; omega, fun b hb hn => by rw [AH.gPo (by simpa using hn), AH.gPo (by omega), AH.gNo (by omega)]; exact hX1.get b hb hn⟩, i + 1, by omega, rfl, by simp, _, rfl, fun n => ?_⟩
  rw [lk_kset, lookL_step hn2 hil]
  by_cases e : n = sp.2[i].1
  ·simp only [e, if_true, reduceCtorEq, false_implies, true_and, Option.some.injEq]
   rintro q rfl
   exact ⟨t, G, rfl, q2⟩
  ·simp only [e, if_false]; exact hm2 n
 have hil : i = sp.2.length := by simp at h; omega
 subst hil
 rw [List.take_length] at hm2
 have gm1' := (hX1.get (A.size + 1) (by omega) (by simp only [List.mem_singleton]; omega)).trans gm
 have gm3' := (hX1.get (A.size + 1 + 1 + 1) (by omega) (by simp only [List.mem_singleton]; omega)).trans gm31
 have gm4' := (hX1.get (A.size + 1 + 1 + 1 + 1) (by omega) (by simp only [List.mem_singleton]; omega)).trans gm41
 have hEx1 : Ext A H1 := hEH1
 simp (disch := first | omega | fail) only [amR Tryz.prog ro X, amS, seval, reduceCtorEq, ty3, ty9, ty22, ty42, ty43, ty45, ty56, ty58, ty76, ty81, ty82, ty83, ty84, ty85, ty87, ty147, ty149, f1, f3, gc2, gp2]
 have hq : ∀ e : Env, e 3 = .pointer (some ⟨A.size + 1 + 1 + 1 + 1 + 1 + 1, 0, none⟩) → Array.map e.eval #[Operand.tmp 3] = #[.pointer (some ⟨A.size + 1 + 1 + 1 + 1 + 1 + 1, 0, none⟩)] := fun e h => by
  simp only [List.map_toArray, List.map_cons, List.map_nil]
  rw [show e.eval (.tmp 3) = e 3 from rfl, h]
 rw [hq _ (by simp (disch := first | omega | fail) only [amV, amH, amQ, amL, amN Tryz.prog, amS, seval, reduceCtorEq, ty3, ty9, ty22, ty42, ty43, ty45, ty56, ty58, ty76, ty81, ty82, ty83, ty84, ty85, ty87, ty147, ty149, f3]), Array.map_empty]
 have hE2 : Ext A (H1.put (A.size + 1 + 1 + 1 + 1 + 1) (.cells [.map (some (A.size + 1)), .map (some (A.size + 1 + 1)), .map (some (A.size + 1 + 1 + 1)), Sl.nil.v, .map (some (A.size + 1 + 1 + 1 + 1)), Sl.nil.v, .func (.func 93) #[] #[.pointer (some ⟨A.size + 1 + 1 + 1 + 1 + 1 + 1, 0, none⟩)]] 7)) := hEx1.put (by omega) _
 have go : ∀ b, b ≠ A.size + 1 + 1 + 1 + 1 + 1 → (H1.put (A.size + 1 + 1 + 1 + 1 + 1) (.cells [.map (some (A.size + 1)), .map (some (A.size + 1 + 1)), .map (some (A.size + 1 + 1 + 1)), Sl.nil.v, .map (some (A.size + 1 + 1 + 1 + 1)), Sl.nil.v, .func (.func 93) #[] #[.pointer (some ⟨A.size + 1 + 1 + 1 + 1 + 1 + 1, 0, none⟩)]] 7)).get b = H1.get b := fun b hb => AH.gPo hb
 have w1 := (go (A.size + 1) (by omega)).trans gm1'
 have w2 := (go (A.size + 1 + 1) (by omega)).trans gn
 have w3 := (go (A.size + 1 + 1 + 1) (by omega)).trans gm3'
 have w4 := (go (A.size + 1 + 1 + 1 + 1) (by omega)).trans gm4'
 have w5 := (go (A.size + 1 + 1 + 1 + 1 + 1 + 1) (by omega)).trans gc2
 refine ⟨⟨A, A.size + 1, A.size + 1 + 1, A.size + 1 + 1 + 1, A.size + 1 + 1 + 1 + 1, A.size + 1 + 1 + 1 + 1 + 1, A.size + 1 + 1 + 1 + 1 + 1 + 1, H1.size, .func (.func 93) #[] #[.pointer (some ⟨A.size + 1 + 1 + 1 + 1 + 1 + 1, 0, none⟩)], sp⟩, rfl, hE2, rfl, rfl, Nat.le_refl _, rfl, ⟨⟨?_, hE2, Nat.le_refl _, ⟨es, w1, hm⟩, ⟨es2, w2, hm2⟩, w5⟩, AH.gPs _ _ _, w3, fun n => rfl, w4, fun n => rfl, .nil, .nil, (fun h => by cases h), rfl, (fun b hb => by cases hb)⟩⟩
 constructor
 all_goals simp only
 all_goals omega
end Go.Proofs.YtmelgjblkmbhjaaGreatDoor.Amu.NewM
