import Derived.Test.YtjlbcofopapajaaDoorAmuTy
import Derived.Test.YtjlbcofopapajaaDoorAmRun
import Derived.Test.YtjlbcofopapajaaDoorAmPutS
import Derived.Test.YtjlbcofopapajaaDoorAmuCopy
import Derived.Test.YtjlbcofopapajaaDoorAmuStore
import Derived.Test.YtjlbcofopapajaaDoorAmuSpace
import Derived.Test.YtjlbcofopapajaaDoorAmuSpace2
import Derived.Test.YtjlbcofopapajaaDoorAmuDrop
namespace Go.Proofs.YtjlbcofopapajaaDoor.Amu.PutTS
open Go Go.AM Go.Proofs
set_option linter.all false
open Ty
variable {ro : Nat} {X : FuncId → List Value → AH → ARes → AH → Prop}
set_option maxRecDepth 10000
theorem specTgt_a (A : AH) (hro : ro ≤ A.size) (s1 s2 : Sl) (x : TSpace) (F1 F2 : List Nat) (h1 : SlR A s1 x.1 F1) (h2 : SlR A s2 x.2 F2) (hl1' : x.1.length < 4294967296) (hl2' : x.2.length < 4294967296) (hp : ∀ t ∈ x.2, t.2.length < 4294967296) (n : ByteArray) (hn : n.size < BIG) (sp : Sl) (p : TProgram) (Fp : List Nat) (hpr : SlR A sp p Fp) (hpl : p.length < 4294967296) :
 ACalls Tryd.prog ro X 28 [.agg #[s1.v, s2.v], .string n, .agg #[sp.v]] A (fun r A' => ∃ cs G, r = .ret (.tuple #[.agg cs.toArray, .int .i64 (putTgtR x n p).2]) ∧ Dat.rep A' (putTgtR x n p).1 cs G ∧ Fresh A G A' ∧ Ext A A') := by
 refine ACalls.enterQ (rs := [.cell 6 53, .tmp 7]) Tryd.func28 rfl (by kernel_rfl) rfl ?_
 have hl1 := h1.len
 have hl2 := h2.len
 simp (maxSteps := 2000000) (disch := first | omega | (simp only [AH.zN, AH.zP] <;> omega) | fail) only [amR Tryd.prog ro X, amS, seval, reduceCtorEq, ty3, ty4, ty9, ty27, ty29, ty50, ty51, ty53, ty129, ty141]
 refine (Space.specCheck_a _ (by first | omega | (simp only [AH.zN, AH.zP] <;> omega)) s1 s2 x F1 F2 (h1.ext (by ((repeat' (first | exact Ext.refl _ | assumption | refine Ext.trans ?_ (Ext.new _ _) | refine Ext.put ?_ ?_ _ | refine Ext.trans ?_ (by assumption))) <;> (first | omega | (simp only [AH.zN, AH.zP] <;> omega))))) (h2.ext (by ((repeat' (first | exact Ext.refl _ | assumption | refine Ext.trans ?_ (Ext.new _ _) | refine Ext.put ?_ ?_ _ | refine Ext.trans ?_ (by assumption))) <;> (first | omega | (simp only [AH.zN, AH.zP] <;> omega))))) (by omega) (by omega) (fun t ht => by have := hp t ht; omega)).mono ?_
 rintro r A1 ⟨rfl, hE1⟩
 have v1 := hE1.size
 simp only [AH.zN] at v1
 have b1 : A1.get (A.size + 1) = .cells [sp.v] 1 := (hE1.get (A.size + 1) (by first | omega | (simp only [AH.zN, AH.zP] <;> omega))).trans (by rw [AH.gNo (by simp only [AH.zN]; omega)]; exact AH.gNs _ _)
 have b2 : A1.get (A.size + 1 + 1) = .cells [Sl.nil.v, Sl.nil.v] 2 := (hE1.get (A.size + 1 + 1) (by first | omega | (simp only [AH.zN, AH.zP] <;> omega))).trans (AH.gNs _ _)
 by_cases k1 : spaceCode x = 0
 ·simp (maxSteps := 2000000) (disch := first | omega | (simp only [AH.zN, AH.zP] <;> omega) | fail) only [amR Tryd.prog ro X, amS, seval, reduceCtorEq, ty3, ty4, ty9, ty27, ty29, ty50, ty51, ty53, ty129, ty141, hE1.get, k1]
  refine (Store.spec.l2NameOk_a _ n).mono ?_
  rintro r A2 ⟨rfl, rfl⟩
  by_cases k2 : NameOk n
  ·simp (maxSteps := 2000000) (disch := first | omega | (simp only [AH.zN, AH.zP] <;> omega) | fail) only [amR Tryd.prog ro X, amS, seval, reduceCtorEq, ty3, ty4, ty9, ty27, ty29, ty50, ty51, ty53, ty129, ty141, hE1.get, k2, b1]
   refine (Prog.specValid_a _ (by first | omega | (simp only [AH.zN, AH.zP] <;> omega)) sp p _ (hpr.ext (by ((repeat' (first | exact Ext.refl _ | assumption | refine Ext.trans ?_ (Ext.new _ _) | refine Ext.put ?_ ?_ _ | refine Ext.trans ?_ (by assumption))) <;> (first | omega | (simp only [AH.zN, AH.zP] <;> omega))))) (by omega)).mono ?_
   rintro r A2' ⟨rfl, hE2⟩
   have v2 := hE2.size
   have b1' := (hE2.get (A.size + 1) (by omega)).trans b1
   have b2' := (hE2.get (A.size + 1 + 1) (by omega)).trans b2
   have b0 : A2'.get A.size = _ := (hE2.get A.size (by omega)).trans (hE1.get A.size (by first | omega | (simp only [AH.zN, AH.zP] <;> omega)))
   have hEA : Ext A A2' := (by ((repeat' (first | exact Ext.refl _ | assumption | refine Ext.trans ?_ (Ext.new _ _) | refine Ext.put ?_ ?_ _ | refine Ext.trans ?_ (by assumption))) <;> (first | omega | (simp only [AH.zN, AH.zP] <;> omega))))
   clear hE1
   by_cases k3 : ProgOk p
   ·have kk : ¬ (¬ NameOk n ∨ ¬ ProgOk p) := fun h => h.elim (fun h => h k2) (fun h => h k3)
    simp (maxSteps := 2000000) (disch := first | omega | (simp only [AH.zN, AH.zP] <;> omega) | fail) only [amR Tryd.prog ro X, amS, seval, reduceCtorEq, ty3, ty4, ty9, ty27, ty29, ty50, ty51, ty53, ty129, ty141, k3, b0]
    refine (Drop.l3Without_a _ (by first | omega | (simp only [AH.zN, AH.zP] <;> omega)) s1 s2 x F1 F2 (h1.ext (by ((repeat' (first | exact Ext.refl _ | assumption | refine Ext.trans ?_ (Ext.new _ _) | refine Ext.put ?_ ?_ _ | refine Ext.trans ?_ (by assumption))) <;> (first | omega | (simp only [AH.zN, AH.zP] <;> omega))))) (h2.ext (by ((repeat' (first | exact Ext.refl _ | assumption | refine Ext.trans ?_ (Ext.new _ _) | refine Ext.put ?_ ?_ _ | refine Ext.trans ?_ (by assumption))) <;> (first | omega | (simp only [AH.zN, AH.zP] <;> omega))))) hl1' hl2' hp n).mono ?_
    rintro r A3 ⟨t1, t2, G1, G2, rfl, q1, q2, fr, hE3⟩
    have v3 := hE3.size
    have u1 := (hE3.get (A.size + 1) (by omega)).trans b1'
    have u2 := (hE3.get (A.size + 1 + 1) (by omega)).trans b2'
    obtain ⟨ha1, ha2, h200⟩ := space_asc k1
    have m1 := wo_length n x.1
    have m2 := wo_length n x.2
    have l1 := q1.len
    have l2 := q2.len
    by_cases k4 : 200 ≤ (wo n x.1).length + (wo n x.2).length
    ·have k5 : (200 : Int) ≤ (t1.len : Int) + t2.len := by omega
     simp (maxSteps := 2000000) (disch := first | omega | (simp only [AH.zN, AH.zP] <;> omega) | fail) only [amR Tryd.prog ro X, amS, seval, reduceCtorEq, ty3, ty4, ty9, ty27, ty29, ty50, ty51, ty53, ty129, ty141, k5, u2]
     exact ⟨_, _, by rw [putTgtR_3 k1 kk k4], by rw [putTgtR_3 k1 kk k4]; exact Drop.zeroSp_rep _, Fresh.nil _ _, (by ((repeat' (first | exact Ext.refl _ | assumption | refine Ext.trans ?_ (Ext.new _ _) | refine Ext.put ?_ ?_ _ | refine Ext.trans ?_ (by assumption))) <;> (first | omega | (simp only [AH.zN, AH.zP] <;> omega))))⟩
    ·have k5 : ¬ (200 : Int) ≤ (t1.len : Int) + t2.len := by omega
     simp (maxSteps := 2000000) (disch := first | omega | (simp only [AH.zN, AH.zP] <;> omega) | fail) only [amR Tryd.prog ro X, amS, seval, reduceCtorEq, ty3, ty4, ty9, ty27, ty29, ty50, ty51, ty53, ty129, ty141, k5, u1]
     generalize hB : AH.new (AH.put (A3.new _) A3.size _) _ = B3
     have zB : B3.size = A3.size + 2 := by rw [← hB]; rfl
     have hEB : Ext A3 B3 := by rw [← hB]; exact (by ((repeat' (first | exact Ext.refl _ | assumption | refine Ext.trans ?_ (Ext.new _ _) | refine Ext.put ?_ ?_ _ | refine Ext.trans ?_ (by assumption))) <;> (first | omega | (simp only [AH.zN, AH.zP] <;> omega))))
     have gB : B3.get A3.size = .cells [t1.v, t2.v] 2 := by rw [← hB, AH.gNo (by simp only [AH.zP, AH.zN]; omega)]; exact AH.gPs _ _ _
     clear hB
     refine (Copy.spec.l3Program_a B3 (by omega) sp p Fp (((hpr.ext hEA).ext hE3).ext hEB) hpl).mono ?_
     rintro r A4 ⟨t3, G3, rfl, q3, fr3, hE4⟩
     have z4 := hE4.size
     simp (maxSteps := 2000000) (disch := first | omega | (simp only [AH.zN, AH.zP] <;> omega) | fail) only [amR Tryd.prog ro X, amS, seval, reduceCtorEq, ty3, ty4, ty9, ty27, ty29, ty50, ty51, ty53, ty129, ty141]
     generalize hC : AH.put (A4.new _) A4.size _ = B5
     have zC : B5.size = A4.size + 1 := by rw [← hC]; rfl
     have hEC : Ext A4 B5 := by rw [← hC]; exact (by ((repeat' (first | exact Ext.refl _ | assumption | refine Ext.trans ?_ (Ext.new _ _) | refine Ext.put ?_ ?_ _ | refine Ext.trans ?_ (by assumption))) <;> (first | omega | (simp only [AH.zN, AH.zP] <;> omega))))
     have gC : B5.get A4.size = .cells [.string n, t3.v] 2 := by rw [← hC]; exact AH.gPs _ _ _
     clear hC
     obtain ⟨E, hE, hEr, hEn, hEf, hEc⟩ := q2.elems rfl twoTarget
     obtain ⟨e0, he0⟩ : ∃ e0 : ByteArray × (TProgram × Value × List Nat), e0 = (n, p, t3.v, G3) := ⟨_, rfl⟩
     have e01 : e0.1 = n := by rw [he0]
     have hEl : (wo n x.2).length = E.length := by rw [hE, List.length_map]
     have hE5 : Ext A3 B5 := (hEB.trans hE4).trans hEC
     have gB5 := (hEC.get A3.size (by omega)).trans ((hE4.get A3.size (by omega)).trans gB)
     have hfoot : ∀ e ∈ E, ∀ b ∈ e.2.2.2, A2'.size ≤ b ∧ b < A3.size := fun e he b hb => by
      have := hEf b (List.mem_flatten.2 ⟨_, List.mem_map.2 ⟨e, he, rfl⟩, hb⟩)
      exact ⟨fr.lo b (by simp [this]), fr.hi b (by simp [this])⟩
     have st : ∀ (H : AH) (u : Sl) (L : List (ByteArray × (TProgram × Value × List Nat))) (e : ByteArray × (TProgram × Value × List Nat)), Ext B5 H → AM.Acc B5.size H u (L.map fun e => (e.1, e.2.1)) (L.map (·.2.2.2)).flatten → L.length ≤ 401 → (u.b = A3.size + 1 ∨ B5.size ≤ u.b) → Dat.rep H (e.1, e.2.1) [.string e.1, e.2.2.1] e.2.2.2 → (∀ b ∈ e.2.2.2, b ≠ A3.size + 1 ∧ b < B5.size) →
      ∃ u' H', aAppend Tryd.prog ro (H.new (.cells [.string e.1, e.2.2.1] 2)) 51 u.v (Sl.mk false H.size 0 1 1).v = some (Sl.v u', H') ∧ AM.Acc B5.size H' u' ((L ++ [e]).map fun e => (e.1, e.2.1)) ((L ++ [e]).map (·.2.2.2)).flatten ∧ Ext B5 H' ∧ (u'.b = A3.size + 1 ∨ B5.size ≤ u'.b) := fun H u L e hE hu hlen hub hr hf => by
      have zH := hE.size
      obtain ⟨u', H', hap, hs', hg, _, hor⟩ := hu.lit (P := Tryd.prog) (ro := ro) (t := 51) (n := 1) (vs := [.string e.1, e.2.2.1]) (xs := [(e.1, e.2.1)]) (Gx := e.2.2.2) (by omega) (by simp only [ty51]; rfl) rfl (Reps.one hr) (.inr (fun hm => by have := hf _ hm; omega)) (by rw [List.length_map]; omega) (by omega)
      rw [show Dat.w TTarget = 2 from rfl] at hap
      refine ⟨u', H', hap, by simpa using hs', hg.ext hE (Nat.le_refl _), ?_⟩
      rcases hor with ⟨_, h⟩ | ⟨h, _⟩
      ·rw [h]; exact hub
      ·right; omega
     refine Wp.loopC (fun k e A' => Ext B5 A' ∧ e 1 = .string n ∧ e 6 = .pointer (some ⟨A.size + 1 + 1, 0, none⟩) ∧ e 7 = .int .i64 0 ∧ e 8 = .pointer (some ⟨A3.size, 0, none⟩) ∧ e 11 = .pointer (some ⟨A4.size, 0, none⟩) ∧
      ∃ i : Nat, i ≤ E.length ∧ k = E.length - i ∧ e 12 = .int .i64 i ∧ e 10 = .bool (decide (someGt n (E.take i))) ∧ ∃ s', e 9 = s'.v ∧ AM.Acc B5.size A' s' ((insP e0 (E.take i)).map fun e => (e.1, e.2.1)) ((insP e0 (E.take i)).map (·.2.2.2)).flatten ∧ (s'.b = A3.size + 1 ∨ B5.size ≤ s'.b)) (E.length - 0) ?_ ?_
     ·simp (maxSteps := 2000000) (disch := first | omega | (simp only [AH.zN, AH.zP] <;> omega) | fail) only [amV, amH, amQ, amL, amN Tryd.prog, amS, seval, reduceCtorEq, ty3, ty4, ty9, ty27, ty29, ty50, ty51, ty53, ty129, ty141]
      exact ⟨Ext.refl _, 0, by omega, rfl, rfl, by rw [decide_eq_false (by simp [someGt])], _, rfl, by simpa [insP, someGt] using AM.Acc.empty (A3.size + 1) 0, .inl rfl⟩
     ·rintro k e A' ⟨hX, f1, f6, f7, f8, f11, i, hi, rfl, f12, f10, s', f9, hacc, hub⟩
      have gX := (hX.get A3.size (by omega)).trans gB5
      have gX4 := (hX.get A4.size (by omega)).trans gC
      have zX := hX.size
      have hpl2 := insP_len e0 (E.take i)
      rw [List.length_take] at hpl2
      simp (maxSteps := 2000000) (disch := first | omega | (simp only [AH.zN, AH.zP] <;> omega) | fail) only [amR Tryd.prog ro X, amS, seval, reduceCtorEq, ty3, ty4, ty9, ty27, ty29, ty50, ty51, ty53, ty129, ty141, f8, f12, gX]
      refine CondB.split (fun h => ?_) (fun h => ?_)
      ·have hil : i < E.length := by simp at h; omega
       obtain ⟨n1, c1, c2, c3, c4⟩ := hEc i hil
       have hb2 : A'.get t2.b = A3.get t2.b := (hX.get _ (by omega)).trans (hE5.get _ c1)
       have rr' := c3
       rw [← hb2] at rr'
       have rc' := c4
       rw [← hb2] at rc'
       have htk : E.take (i + 1) = E.take i ++ [E[i]] := List.take_succ_eq_append_getElem hil
       have hme : E[i] ∈ E := List.getElem_mem _
       have hfe : ∀ b ∈ (E[i]'hil).2.2.2, b ≠ A3.size + 1 ∧ b < B5.size := fun b hb => by have := hfoot _ hme b hb; omega
       have hlE : E.length ≤ 200 := by omega
       by_cases hd : someGt n (E.take i)
       ·rw [decide_eq_true hd] at f10
        obtain ⟨u', H', hap, hs', hE', hub'⟩ := st A' s' _ E[i] hX hacc (by omega) hub (Dat.ext (Dat.ext (hEr _ hme) hE5) hX) hfe
        simp (maxSteps := 2000000) (disch := first | omega | (simp only [AH.zN, AH.zP] <;> omega) | fail) only [amR Tryd.prog ro X, amS, seval, reduceCtorEq, ty3, ty4, ty9, ty27, ty29, ty50, ty51, ty53, ty129, ty141, f1, f6, f7, f8, f9, f10, f11, f12, gX, n1, rr', hap]
        refine ⟨E.length - (i + 1), by omega, hE', i + 1, by omega, rfl, by simp, by rw [htk, decide_eq_true (someGt_snoc.2 (.inl hd))], u', rfl, ?_, hub'⟩
        rw [htk, insP_done (by rw [e01]; exact hd)]; exact hs'
       ·rw [decide_eq_false hd] at f10
        by_cases hs : slt n E[i].1
        ·have hs0 : (Op.bytesLess E[i].1.toList n.toList || decide (E[i].1 = n)) = false := sle_false.2 hs
         obtain ⟨u', H', hap, hs', hE', hub'⟩ := st A' s' _ e0 hX hacc (by omega) hub (by rw [he0]; exact rep_Target.2 ⟨t3, G3, rfl, rfl, hn, (q3.ext hEC).ext hX⟩) (fun b hb => by rw [he0] at hb; have := fr3.lo b hb; have := fr3.hi b hb; omega)
         obtain ⟨u2', H2, hap2, hs2, hE2', hub2⟩ := st H' u' _ E[i] hE' hs' (by rw [List.length_append, List.length_singleton]; omega) hub' (Dat.ext (Dat.ext (hEr _ hme) hE5) hE') hfe
         rw [he0] at hap
         have gH := (hE'.get A3.size (by omega)).trans gB5
         have hb3 : H'.get t2.b = A3.get t2.b := (hE'.get _ (by omega)).trans (hE5.get _ c1)
         have rr2 := c3
         rw [← hb3] at rr2
         simp (maxSteps := 2000000) (disch := first | omega | (simp only [AH.zN, AH.zP] <;> omega) | fail) only [amR Tryd.prog ro X, amS, seval, reduceCtorEq, ty3, ty4, ty9, ty27, ty29, ty50, ty51, ty53, ty129, ty141, f1, f6, f7, f8, f9, f10, f11, f12, gX, gX4, n1, rc', rr', hs0, hap, gH, rr2, hap2]
         refine ⟨E.length - (i + 1), by omega, hE2', i + 1, by omega, rfl, by simp, by rw [htk, decide_eq_true (someGt_snoc.2 (.inr hs))], u2', rfl, ?_, hub2⟩
         rw [htk, insP_first (by rw [e01]; exact hd) (by rw [e01]; exact hs)]; exact hs2
        ·have hs0 : (Op.bytesLess E[i].1.toList n.toList || decide (E[i].1 = n)) = true := by rw [sle_not, decide_eq_false hs]; rfl
         obtain ⟨u', H', hap, hs', hE', hub'⟩ := st A' s' _ E[i] hX hacc (by omega) hub (Dat.ext (Dat.ext (hEr _ hme) hE5) hX) hfe
         simp (maxSteps := 2000000) (disch := first | omega | (simp only [AH.zN, AH.zP] <;> omega) | fail) only [amR Tryd.prog ro X, amS, seval, reduceCtorEq, ty3, ty4, ty9, ty27, ty29, ty50, ty51, ty53, ty129, ty141, f1, f6, f7, f8, f9, f10, f11, f12, gX, n1, rc', rr', hs0, hap]
         refine ⟨E.length - (i + 1), by omega, hE', i + 1, by omega, rfl, by simp, by rw [htk, decide_eq_false (fun q => (someGt_snoc.1 q).elim hd hs)], u', rfl, ?_, hub'⟩
         rw [htk, insP_not (by rw [e01]; exact hd) (by rw [e01]; exact hs)]; exact hs'
      ·have hil : i = E.length := by simp at h; omega
       subst hil
       rw [List.take_length] at f10 hacc
       have fin : ∀ (H : AH) (u : Sl), Ext B5 H → AM.Acc B5.size H u ((insGo e0 E).map fun e => (e.1, e.2.1)) ((insGo e0 E).map (·.2.2.2)).flatten → ∃ cs G, ARes.ret (.tuple #[.agg #[t1.v, u.v], .int .i64 0]) = .ret (.tuple #[.agg cs.toArray, .int .i64 (putTgtR x n p).2]) ∧ Dat.rep ((H.put A3.size (.cells [t1.v, u.v] 2)).put (A.size + 1 + 1) (.cells [t1.v, u.v] 2)) (putTgtR x n p).1 cs G ∧
        Fresh A G ((H.put A3.size (.cells [t1.v, u.v] 2)).put (A.size + 1 + 1) (.cells [t1.v, u.v] 2)) ∧ Ext A ((H.put A3.size (.cells [t1.v, u.v] 2)).put (A.size + 1 + 1) (.cells [t1.v, u.v] 2)) := fun H u hE2 hu => by
        have zH := hE2.size
        have hpm : ((insGo e0 E).map (·.2.2.2)).flatten.Perm ((E.map (·.2.2.2)).flatten ++ G3) := by
         have h := flatten_perm ((insGo_perm e0 E).map (·.2.2.2))
         have e : ((E ++ [e0]).map (·.2.2.2)).flatten = (E.map (·.2.2.2)).flatten ++ G3 := by rw [he0]; simp
         rw [e] at h
         exact h
        have hnd := List.nodup_append.1 fr.nodup
        have hm2 : ∀ b ∈ ((insGo e0 E).map (·.2.2.2)).flatten, (b ∈ G2 ∧ A2'.size ≤ b ∧ b < A3.size) ∨ (B3.size ≤ b ∧ b < A4.size) := fun b hb => by
         rcases List.mem_append.1 (hpm.mem_iff.1 hb) with hb | hb
         ·have hb := hEf b hb; exact .inl ⟨hb, fr.lo b (by simp [hb]), fr.hi b (by simp [hb])⟩
         ·exact .inr ⟨fr3.lo b hb, fr3.hi b hb⟩
        have hnG : ((insGo e0 E).map (·.2.2.2)).flatten.Nodup := hpm.nodup_iff.2 (List.nodup_append.2 ⟨hEn hnd.2.1, fr3.nodup, fun a ha b hb e => by
         have h1 := hEf a ha
         have := fr.hi a (by simp [h1]); have := fr3.lo b hb; omega⟩)
        have hne : ((insGo e0 E).map fun e => (e.1, e.2.1)) ≠ [] := fun h => by have := congrArg List.length h; rw [List.length_map, insGo_length] at this; simp at this
        obtain ⟨_, y2, y3⟩ := hu.lt hne
        obtain ⟨Fs, hsl2, f1, f2, f3⟩ := (Drop.acc_lower hu (show A2'.size ≤ B5.size by omega)).foot (fun b hb => by rcases hm2 b hb with h | h <;> omega) hnG
        have hF := hsl2.bound
        have hFs : ∀ b ∈ Fs, B5.size ≤ b ∨ (b ∈ G2 ∧ A2'.size ≤ b ∧ b < A3.size) ∨ (B3.size ≤ b ∧ b < A4.size) := fun b hb => by
         rcases f3 b hb with h | h
         ·left; omega
         ·exact .inr (hm2 b h)
        have hXP : ExtX [A3.size, A.size + 1 + 1] H ((H.put A3.size (.cells [t1.v, u.v] 2)).put (A.size + 1 + 1) (.cells [t1.v, u.v] 2)) := ((ExtX.refl _ H).put (by simp) _).put (by simp) _
        have hG1 : ∀ b ∈ G1, A2'.size ≤ b ∧ b < A3.size := fun b hb => ⟨fr.lo b (by simp [hb]), fr.hi b (by simp [hb])⟩
        have hins : (insGo e0 E).map (fun e => (e.1, e.2.1)) = insGo (n, p) (wo n x.2) := by
         rw [hE, he0]; exact (insGo_map (fun e : ByteArray × (TProgram × Value × List Nat) => (e.1, e.2.1)) (fun _ => rfl) (n, p, t3.v, G3) E).symm
        refine ⟨_, G1 ++ Fs, by rw [putTgtR_0 k1 kk k4], ?_, ⟨List.nodup_append.2 ⟨hnd.1, f1, fun a ha b hb e => ?_⟩, fun b hb => ?_, fun b hb => ?_⟩, ⟨(by first | omega | (simp only [AH.zN, AH.zP] <;> omega)), fun b hb => ?_⟩⟩
        ·rw [putTgtR_0 k1 kk k4]
         rw [hins] at hsl2
         refine rep_Space.2 ⟨t1, u, G1, Fs, rfl, rfl, ?_, hsl2.extx hXP (fun b hb => by have := hFs b hb; simp; omega)⟩
         exact ((q1.ext hE5).ext hE2).extx hXP (fun b hb => by have := hG1 b hb; simp; omega)
        ·have h1 := hG1 a ha
         rcases hFs b hb with h | h | h
         ·omega
         ·exact hnd.2.2 a ha b h.1 e
         ·omega
        ·rcases List.mem_append.1 hb with hb | hb
         ·have := hG1 b hb; omega
         ·have := f2 b hb; omega
        ·simp only [AH.zP]
         rcases List.mem_append.1 hb with hb | hb
         ·have := hG1 b hb; omega
         ·exact hF b hb
        ·rw [AH.gPo (by omega), AH.gPo (by omega), hE2.get b (by omega), hE5.get b (by omega), hE3.get b (by omega), hEA.get b hb]
       by_cases hd : someGt n E
       ·rw [decide_eq_true hd] at f10
        have hi : insP e0 E = insGo e0 E := by have := insP_end (x := e0) (l := E); rwa [if_pos (by rw [e01]; exact hd)] at this
        have r1 := (hX.get (A.size + 1 + 1) (by omega)).trans ((hE5.get (A.size + 1 + 1) (by omega)).trans u2)
        simp (maxSteps := 2000000) (disch := first | omega | (simp only [AH.zN, AH.zP] <;> omega) | fail) only [amR Tryd.prog ro X, amS, seval, reduceCtorEq, ty3, ty4, ty9, ty27, ty29, ty50, ty51, ty53, ty129, ty141, f1, f6, f7, f8, f9, f10, f11, gX, r1]
        exact fin A' s' hX (by rw [← hi]; exact hacc)
       ·rw [decide_eq_false hd] at f10
        have hi : insP e0 E ++ [e0] = insGo e0 E := by have := insP_end (x := e0) (l := E); rwa [if_neg (by rw [e01]; exact hd)] at this
        obtain ⟨u', H', hap, hs', hE', hub'⟩ := st A' s' _ e0 hX hacc (by rw [List.take_length] at hpl2; omega) hub (by rw [he0]; exact rep_Target.2 ⟨t3, G3, rfl, rfl, hn, (q3.ext hEC).ext hX⟩) (fun b hb => by rw [he0] at hb; have := fr3.lo b hb; have := fr3.hi b hb; omega)
        rw [he0] at hap
        have gH := (hE'.get A3.size (by omega)).trans gB5
        have r1 := (hE'.get (A.size + 1 + 1) (by omega)).trans ((hE5.get (A.size + 1 + 1) (by omega)).trans u2)
        simp (maxSteps := 2000000) (disch := first | omega | (simp only [AH.zN, AH.zP] <;> omega) | fail) only [amR Tryd.prog ro X, amS, seval, reduceCtorEq, ty3, ty4, ty9, ty27, ty29, ty50, ty51, ty53, ty129, ty141, f1, f6, f7, f8, f9, f10, f11, gX4, hap, gH, r1]
        exact fin H' u' hE' (by rw [← hi]; exact hs')
   ·have kk : ¬ NameOk n ∨ ¬ ProgOk p := .inr k3
    simp (maxSteps := 2000000) (disch := first | omega | (simp only [AH.zN, AH.zP] <;> omega) | fail) only [amR Tryd.prog ro X, amS, seval, reduceCtorEq, ty3, ty4, ty9, ty27, ty29, ty50, ty51, ty53, ty129, ty141, k3, b2']
    exact ⟨_, _, by rw [putTgtR_2 k1 kk], by rw [putTgtR_2 k1 kk]; exact Drop.zeroSp_rep _, Fresh.nil _ _, (by ((repeat' (first | exact Ext.refl _ | assumption | refine Ext.trans ?_ (Ext.new _ _) | refine Ext.put ?_ ?_ _ | refine Ext.trans ?_ (by assumption))) <;> (first | omega | (simp only [AH.zN, AH.zP] <;> omega))))⟩
  ·have kk : ¬ NameOk n ∨ ¬ ProgOk p := .inl k2
   simp (maxSteps := 2000000) (disch := first | omega | (simp only [AH.zN, AH.zP] <;> omega) | fail) only [amR Tryd.prog ro X, amS, seval, reduceCtorEq, ty3, ty4, ty9, ty27, ty29, ty50, ty51, ty53, ty129, ty141, hE1.get, k2]
   exact ⟨_, _, by rw [putTgtR_2 k1 kk], by rw [putTgtR_2 k1 kk]; exact Drop.zeroSp_rep _, Fresh.nil _ _, (by ((repeat' (first | exact Ext.refl _ | assumption | refine Ext.trans ?_ (Ext.new _ _) | refine Ext.put ?_ ?_ _ | refine Ext.trans ?_ (by assumption))) <;> (first | omega | (simp only [AH.zN, AH.zP] <;> omega))))⟩
 ·simp (maxSteps := 2000000) (disch := first | omega | (simp only [AH.zN, AH.zP] <;> omega) | fail) only [amR Tryd.prog ro X, amS, seval, reduceCtorEq, ty3, ty4, ty9, ty27, ty29, ty50, ty51, ty53, ty129, ty141, hE1.get, k1]
  exact ⟨_, _, by rw [putTgtR_1 k1], by rw [putTgtR_1 k1]; exact Drop.zeroSp_rep _, Fresh.nil _ _, (by ((repeat' (first | exact Ext.refl _ | assumption | refine Ext.trans ?_ (Ext.new _ _) | refine Ext.put ?_ ?_ _ | refine Ext.trans ?_ (by assumption))) <;> (first | omega | (simp only [AH.zN, AH.zP] <;> omega))))⟩
end Go.Proofs.YtjlbcofopapajaaDoor.Amu.PutTS
