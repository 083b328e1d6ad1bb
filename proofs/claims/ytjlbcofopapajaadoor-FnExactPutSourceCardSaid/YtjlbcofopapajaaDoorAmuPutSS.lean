import Derived.Test.YtjlbcofopapajaaDoorAmuTy
import Derived.Test.YtjlbcofopapajaaDoorAmRun
import Derived.Test.YtjlbcofopapajaaDoorAmPutS
import Derived.Test.YtjlbcofopapajaaDoorAmuCopy
import Derived.Test.YtjlbcofopapajaaDoorAmuStore
import Derived.Test.YtjlbcofopapajaaDoorAmuSpace
import Derived.Test.YtjlbcofopapajaaDoorAmuSpace2
import Derived.Test.YtjlbcofopapajaaDoorAmuDrop
namespace Go.Proofs.YtjlbcofopapajaaDoor.Amu.PutSS
open Go Go.AM Go.Proofs
set_option linter.all false
open Ty
variable {ro : Nat} {X : FuncId → List Value → AH → ARes → AH → Prop}
set_option maxRecDepth 10000
def insP {α : Type} (x : ByteArray × α) (l : List (ByteArray × α)) : List (ByteArray × α) := if someGt x.1 l then insGo x l else l
theorem insP_len {α : Type} (x : ByteArray × α) (l : List (ByteArray × α)) : (insP x l).length ≤ l.length + 1 := by
 unfold insP
 split
 ·rw [insGo_length]; omega
 ·omega
theorem insP_done {α : Type} {x y : ByteArray × α} {l : List (ByteArray × α)} (h : someGt x.1 l) : insP x (l ++ [y]) = insP x l ++ [y] := by
 unfold insP
 rw [if_pos (someGt_snoc.2 (.inl h)), if_pos h, insGo_snoc h]
theorem insP_first {α : Type} {x y : ByteArray × α} {l : List (ByteArray × α)} (h : ¬ someGt x.1 l) (k : slt x.1 y.1) : insP x (l ++ [y]) = (insP x l ++ [x]) ++ [y] := by
 unfold insP
 rw [if_pos (someGt_snoc.2 (.inr k)), if_neg h, insGo_first h k]
 simp
theorem insP_not {α : Type} {x y : ByteArray × α} {l : List (ByteArray × α)} (h : ¬ someGt x.1 l) (k : ¬ slt x.1 y.1) : insP x (l ++ [y]) = insP x l ++ [y] := by
 unfold insP
 rw [if_neg (fun q => (someGt_snoc.1 q).elim h k), if_neg h]
theorem insP_end {α : Type} {x : ByteArray × α} {l : List (ByteArray × α)} : (if someGt x.1 l then insP x l else insP x l ++ [x]) = insGo x l := by
 unfold insP
 split
 ·rfl
 ·exact (insGo_none ‹_›).symm
theorem specSrc_a (A : AH) (hro : ro ≤ A.size) (s1 s2 : Sl) (x : TSpace) (F1 F2 : List Nat) (h1 : SlR A s1 x.1 F1) (h2 : SlR A s2 x.2 F2) (hl1' : x.1.length < 4294967296) (hl2' : x.2.length < 4294967296) (hp : ∀ t ∈ x.2, t.2.length < 4294967296) (n t : ByteArray) (hn : n.size < BIG) (ht : t.size < BIG) :
 ACalls Tryd.prog ro X 22 [.agg #[s1.v, s2.v], .string n, .string t] A (fun r A' => ∃ cs G, r = .ret (.tuple #[.agg cs.toArray, .int .i64 (putSrcR x n t).2]) ∧ Dat.rep A' (putSrcR x n t).1 cs G ∧ Fresh A G A' ∧ Ext A A') := by
 refine ACalls.enterQ (rs := [.cell 6 53, .tmp 7]) Tryd.func22 rfl (by kernel_rfl) rfl ?_
 have hl1 := h1.len
 have hl2 := h2.len
 simp (maxSteps := 2000000) (disch := first | omega | (simp only [AH.zN, AH.zP] <;> omega) | fail) only [amR Tryd.prog ro X, amS, seval, reduceCtorEq, ty3, ty4, ty9, ty50, ty51, ty53, ty129, ty141]
 refine (Space.specCheck_a _ (by first | omega | (simp only [AH.zN, AH.zP] <;> omega)) s1 s2 x F1 F2 (h1.ext (by ((repeat' (first | exact Ext.refl _ | assumption | refine Ext.trans ?_ (Ext.new _ _) | refine Ext.put ?_ ?_ _ | refine Ext.trans ?_ (by assumption))) <;> (first | omega | (simp only [AH.zN, AH.zP] <;> omega))))) (h2.ext (by ((repeat' (first | exact Ext.refl _ | assumption | refine Ext.trans ?_ (Ext.new _ _) | refine Ext.put ?_ ?_ _ | refine Ext.trans ?_ (by assumption))) <;> (first | omega | (simp only [AH.zN, AH.zP] <;> omega))))) (by omega) (by omega) (fun t ht => by have := hp t ht; omega)).mono ?_
 rintro r A1 ⟨rfl, hE1⟩
 have v1 := hE1.size
 simp only [AH.zN] at v1
 by_cases k1 : spaceCode x = 0
 ·simp (maxSteps := 2000000) (disch := first | omega | (simp only [AH.zN, AH.zP] <;> omega) | fail) only [amR Tryd.prog ro X, amS, seval, reduceCtorEq, ty3, ty4, ty9, ty50, ty51, ty53, ty129, ty141, hE1.get, k1]
  refine (Store.spec.l2NameOk_a _ n).mono ?_
  rintro r A2 ⟨rfl, rfl⟩
  by_cases k2 : NameOk n
  ·by_cases k3 : (2000 : Int) < t.size
   ·have kk : ¬ NameOk n ∨ 2000 < t.size := .inr (by omega)
    simp (maxSteps := 2000000) (disch := first | omega | (simp only [AH.zN, AH.zP] <;> omega) | fail) only [amR Tryd.prog ro X, amS, seval, reduceCtorEq, ty3, ty4, ty9, ty50, ty51, ty53, ty129, ty141, hE1.get, k2, k3]
    exact ⟨_, _, by rw [putSrcR_2 k1 kk], by rw [putSrcR_2 k1 kk]; exact Drop.zeroSp_rep _, Fresh.nil _ _, (by ((repeat' (first | exact Ext.refl _ | assumption | refine Ext.trans ?_ (Ext.new _ _) | refine Ext.put ?_ ?_ _ | refine Ext.trans ?_ (by assumption))) <;> (first | omega | (simp only [AH.zN, AH.zP] <;> omega))))⟩
   ·have kk : ¬ (¬ NameOk n ∨ 2000 < t.size) := fun h => h.elim (fun h => h k2) (fun h => k3 (by omega))
    simp (maxSteps := 2000000) (disch := first | omega | (simp only [AH.zN, AH.zP] <;> omega) | fail) only [amR Tryd.prog ro X, amS, seval, reduceCtorEq, ty3, ty4, ty9, ty50, ty51, ty53, ty129, ty141, hE1.get, k2, k3]
    refine (Drop.l3Without_a _ (by first | omega | (simp only [AH.zN, AH.zP] <;> omega)) s1 s2 x F1 F2 (h1.ext (by ((repeat' (first | exact Ext.refl _ | assumption | refine Ext.trans ?_ (Ext.new _ _) | refine Ext.put ?_ ?_ _ | refine Ext.trans ?_ (by assumption))) <;> (first | omega | (simp only [AH.zN, AH.zP] <;> omega))))) (h2.ext (by ((repeat' (first | exact Ext.refl _ | assumption | refine Ext.trans ?_ (Ext.new _ _) | refine Ext.put ?_ ?_ _ | refine Ext.trans ?_ (by assumption))) <;> (first | omega | (simp only [AH.zN, AH.zP] <;> omega))))) hl1' hl2' hp n).mono ?_
    rintro r A3 ⟨t1, t2, G1, G2, rfl, q1, q2, fr, hE3⟩
    have v3 := hE3.size
    have u1 := (hE3.get A.size (by first | omega | (simp only [AH.zN, AH.zP] <;> omega))).trans (hE1.get A.size (by first | omega | (simp only [AH.zN, AH.zP] <;> omega)))
    have u2 := (hE3.get (A.size + 1) (by first | omega | (simp only [AH.zN, AH.zP] <;> omega))).trans (hE1.get (A.size + 1) (by first | omega | (simp only [AH.zN, AH.zP] <;> omega)))
    obtain ⟨ha1, ha2, h200⟩ := space_asc k1
    have m1 := wo_length n x.1
    have m2 := wo_length n x.2
    have l1 := q1.len
    have l2 := q2.len
    by_cases k4 : 200 ≤ (wo n x.1).length + (wo n x.2).length
    ·have k5 : (200 : Int) ≤ (t1.len : Int) + t2.len := by omega
     simp (maxSteps := 2000000) (disch := first | omega | (simp only [AH.zN, AH.zP] <;> omega) | fail) only [amR Tryd.prog ro X, amS, seval, reduceCtorEq, ty3, ty4, ty9, ty50, ty51, ty53, ty129, ty141, k5, u2]
     exact ⟨_, _, by rw [putSrcR_3 k1 kk k4], by rw [putSrcR_3 k1 kk k4]; exact Drop.zeroSp_rep _, Fresh.nil _ _, (by ((repeat' (first | exact Ext.refl _ | assumption | refine Ext.trans ?_ (Ext.new _ _) | refine Ext.put ?_ ?_ _ | refine Ext.trans ?_ (by assumption))) <;> (first | omega | (simp only [AH.zN, AH.zP] <;> omega))))⟩
    ·have k5 : ¬ (200 : Int) ≤ (t1.len : Int) + t2.len := by omega
     simp (maxSteps := 2000000) (disch := first | omega | (simp only [AH.zN, AH.zP] <;> omega) | fail) only [amR Tryd.prog ro X, amS, seval, reduceCtorEq, ty3, ty4, ty9, ty50, ty51, ty53, ty129, ty141, k5, u2]
     generalize hB : AH.new (AH.put (A3.new _) A3.size _) _ = B3
     have zB : B3.size = A3.size + 2 := by rw [← hB]; rfl
     have hEB : Ext A3 B3 := by rw [← hB]; exact (by ((repeat' (first | exact Ext.refl _ | assumption | refine Ext.trans ?_ (Ext.new _ _) | refine Ext.put ?_ ?_ _ | refine Ext.trans ?_ (by assumption))) <;> (first | omega | (simp only [AH.zN, AH.zP] <;> omega))))
     have gB : B3.get A3.size = .cells [t1.v, t2.v] 2 := by rw [← hB, AH.gNo (by simp only [AH.zP, AH.zN]; omega)]; exact AH.gPs _ _ _
     clear hB
     refine Wp.loopC (fun k e A' => Ext B3 A' ∧ e 1 = .string n ∧ e 2 = .string t ∧ e 6 = .pointer (some ⟨A.size + 1, 0, none⟩) ∧ e 7 = .int .i64 0 ∧ e 8 = .pointer (some ⟨A3.size, 0, none⟩) ∧
      ∃ i : Nat, i ≤ (wo n x.1).length ∧ k = (wo n x.1).length - i ∧ e 11 = .int .i64 i ∧ e 10 = .bool (decide (someGt n ((wo n x.1).take i))) ∧ ∃ s', e 9 = s'.v ∧ AM.Acc B3.size A' s' (insP (n, t) ((wo n x.1).take i)) []) ((wo n x.1).length - 0) ?_ ?_
     ·simp (maxSteps := 2000000) (disch := first | omega | (simp only [AH.zN, AH.zP] <;> omega) | fail) only [amV, amH, amQ, amL, amN Tryd.prog, amS, seval, reduceCtorEq, ty3, ty4, ty9, ty50, ty51, ty53, ty129, ty141]
      exact ⟨Ext.refl _, 0, by omega, rfl, rfl, by rw [decide_eq_false (by simp [someGt])], _, rfl, by simpa [insP, someGt] using AM.Acc.empty (A3.size + 1) 0⟩
     ·rintro k e A' ⟨hX, e1, e2, e6, e7, e8, i, hi, rfl, e11, e10, s', e9, hacc⟩
      have gX := (hX.get A3.size (by omega)).trans gB
      have zX := hX.size
      have hq : SlR A' t1 (wo n x.1) G1 := (q1.ext hEB).ext hX
      have hpl := insP_len (n, t) ((wo n x.1).take i)
      rw [List.length_take] at hpl
      have hsl := hacc.len
      simp (maxSteps := 2000000) (disch := first | omega | (simp only [AH.zN, AH.zP] <;> omega) | fail) only [amR Tryd.prog ro X, amS, seval, reduceCtorEq, ty3, ty4, ty9, ty50, ty51, ty53, ty129, ty141, e8, e11, gX]
      refine CondB.split (fun h => ?_) (fun h => ?_)
      ·have hil : i < (wo n x.1).length := by simp at h; omega
       obtain ⟨c, n1, b1, i1, c1, r0, r1, rr, z1, z2⟩ := hq.source hil
       have htk : (wo n x.1).take (i + 1) = (wo n x.1).take i ++ [(wo n x.1)[i]] := List.take_succ_eq_append_getElem hil
       have rr' : rowK (t1.o + i * 2) 2 (A'.get t1.b) = some [.string (wo n x.1)[i].1, .string (wo n x.1)[i].2] := by rw [c1]; exact rr
       have rc' : cellK (t1.o + i * 2) (A'.get t1.b) = some (.string (wo n x.1)[i].1) := by rw [c1]; exact r0
       have step : ∀ (H : AH) (u : Sl) (l : List TSource) (a b : ByteArray), Ext B3 H → AM.Acc B3.size H u l [] → l.length ≤ 401 → a.size < BIG → b.size < BIG → ∃ u' H', aAppend Tryd.prog ro (H.new (.cells [.string a, .string b] 2)) 50 u.v (Sl.mk false H.size 0 1 1).v = some (Sl.v u', H') ∧ AM.Acc B3.size H' u' (l ++ [(a, b)]) [] ∧ Ext B3 H' := fun H u l a b hE hu hlen ha hb => by
        obtain ⟨u', H', hap, hs', hg, _, _⟩ := hu.lit (P := Tryd.prog) (ro := ro) (t := 50) (n := 1) (vs := [.string a, .string b]) (xs := [(a, b)]) (by omega) (by simp only [ty50]; rfl) rfl (Reps.one (rep_Source.2 ⟨rfl, rfl, ha, hb⟩)) (.inr (by simp)) (by omega) (by have := hE.size; omega)
        rw [show Dat.w TSource = 2 from rfl] at hap
        exact ⟨u', H', hap, hs', hg.ext hE (Nat.le_refl _)⟩
       have za : ((wo n x.1)[i]'hil).1.size < BIG := by unfold BIG; omega
       have zb : ((wo n x.1)[i]'hil).2.size < BIG := by unfold BIG; omega
       by_cases hd : someGt n ((wo n x.1).take i)
       ·rw [decide_eq_true hd] at e10
        obtain ⟨u', H', hap, hs', hE'⟩ := step A' s' _ _ _ hX hacc (by omega) za zb
        simp (maxSteps := 2000000) (disch := first | omega | (simp only [AH.zN, AH.zP] <;> omega) | fail) only [amR Tryd.prog ro X, amS, seval, reduceCtorEq, ty3, ty4, ty9, ty50, ty51, ty53, ty129, ty141, e1, e2, e6, e7, e8, e9, e10, e11, gX, n1, rr', hap]
        exact ⟨(wo n x.1).length - (i + 1), by omega, hE', i + 1, by omega, rfl, by simp, by rw [htk, decide_eq_true (someGt_snoc.2 (.inl hd))], u', rfl, by rw [htk, insP_done hd]; exact hs'⟩
       ·rw [decide_eq_false hd] at e10
        by_cases hs : slt n (wo n x.1)[i].1
        ·have hs0 : (Op.bytesLess (wo n x.1)[i].1.toList n.toList || decide ((wo n x.1)[i].1 = n)) = false := sle_false.2 hs
         obtain ⟨u', H', hap, hs', hE'⟩ := step A' s' _ n t hX hacc (by omega) hn ht
         have hsl' := hs'.len
         rw [List.length_append, List.length_singleton] at hsl'
         obtain ⟨u2, H2, hap2, hs2, hE2⟩ := step H' u' _ _ _ hE' hs' (by rw [List.length_append, List.length_singleton]; omega) za zb
         have gH := (hE'.get A3.size (by omega)).trans gB
         obtain ⟨c', n1', b1', i1', c1', r0', r1', rrH, _⟩ := ((q1.ext hEB).ext hE').source hil
         have rr2 : rowK (t1.o + i * 2) 2 (H'.get t1.b) = some [.string (wo n x.1)[i].1, .string (wo n x.1)[i].2] := by rw [c1']; exact rrH
         simp (maxSteps := 2000000) (disch := first | omega | (simp only [AH.zN, AH.zP] <;> omega) | fail) only [amR Tryd.prog ro X, amS, seval, reduceCtorEq, ty3, ty4, ty9, ty50, ty51, ty53, ty129, ty141, e1, e2, e6, e7, e8, e9, e10, e11, gX, n1, rc', rr', hs0, hap, gH, rr2, hap2]
         exact ⟨(wo n x.1).length - (i + 1), by omega, hE2, i + 1, by omega, rfl, by simp, by rw [htk, decide_eq_true (someGt_snoc.2 (.inr hs))], u2, rfl, by rw [htk, insP_first hd hs]; exact hs2⟩
        ·have hs0 : (Op.bytesLess (wo n x.1)[i].1.toList n.toList || decide ((wo n x.1)[i].1 = n)) = true := by rw [sle_not, decide_eq_false hs]; rfl
         obtain ⟨u', H', hap, hs', hE'⟩ := step A' s' _ _ _ hX hacc (by omega) za zb
         simp (maxSteps := 2000000) (disch := first | omega | (simp only [AH.zN, AH.zP] <;> omega) | fail) only [amR Tryd.prog ro X, amS, seval, reduceCtorEq, ty3, ty4, ty9, ty50, ty51, ty53, ty129, ty141, e1, e2, e6, e7, e8, e9, e10, e11, gX, n1, rc', rr', hs0, hap]
         exact ⟨(wo n x.1).length - (i + 1), by omega, hE', i + 1, by omega, rfl, by simp, by rw [htk, decide_eq_false (fun q => (someGt_snoc.1 q).elim hd hs)], u', rfl, by rw [htk, insP_not hd hs]; exact hs'⟩
      ·have hil : i = (wo n x.1).length := by simp at h; omega
       subst hil
       rw [List.take_length] at e10 hacc
       have fin : ∀ (H : AH) (u : Sl), Ext B3 H → AM.Acc B3.size H u (insGo (n, t) (wo n x.1)) [] → ∃ cs G, ARes.ret (.tuple #[.agg #[u.v, t2.v], .int .i64 0]) = .ret (.tuple #[.agg cs.toArray, .int .i64 (putSrcR x n t).2]) ∧ Dat.rep ((H.put A3.size (.cells [u.v, t2.v] 2)).put (A.size + 1) (.cells [u.v, t2.v] 2)) (putSrcR x n t).1 cs G ∧
        Fresh A G ((H.put A3.size (.cells [u.v, t2.v] 2)).put (A.size + 1) (.cells [u.v, t2.v] 2)) ∧ Ext A ((H.put A3.size (.cells [u.v, t2.v] 2)).put (A.size + 1) (.cells [u.v, t2.v] 2)) := fun H u hE hu => by
        have zH := hE.size
        obtain ⟨Fs, hsl2, f1, f2, f3⟩ := hu.foot (by simp) .nil
        have hXP : ExtX [A3.size, A.size + 1] H ((H.put A3.size (.cells [u.v, t2.v] 2)).put (A.size + 1) (.cells [u.v, t2.v] 2)) := ((ExtX.refl _ H).put (by simp) _).put (by simp) _
        have hG2 : ∀ b ∈ G2, A2.size ≤ b ∧ b < A3.size := fun b hb => ⟨fr.lo b (by simp [hb]), fr.hi b (by simp [hb])⟩
        have hF := hsl2.bound
        refine ⟨_, Fs ++ G2, by rw [putSrcR_0 k1 kk k4], ?_, ⟨List.nodup_append.2 ⟨f1, (List.nodup_append.1 fr.nodup).2.1, fun a ha b hb e => ?_⟩, fun b hb => ?_, fun b hb => ?_⟩, ⟨(by first | omega | (simp only [AH.zN, AH.zP] <;> omega)), fun b hb => ?_⟩⟩
        ·rw [putSrcR_0 k1 kk k4]
         refine rep_Space.2 ⟨u, t2, Fs, G2, rfl, rfl, hsl2.extx hXP (fun b hb => by have := f2 b hb; simp; omega), ?_⟩
         exact ((q2.ext hEB).ext hE).extx hXP (fun b hb => by have := hG2 b hb; simp; omega)
        ·have := f2 a ha; have := hG2 b hb; omega
        ·rcases List.mem_append.1 hb with hb | hb
         ·have := f2 b hb; omega
         ·have := hG2 b hb; omega
        ·simp only [AH.zP]
         rcases List.mem_append.1 hb with hb | hb
         ·exact hF b hb
         ·have := hG2 b hb; omega
        ·rw [AH.gPo (by omega), AH.gPo (by omega), hE.get b (by omega), hEB.get b (by omega), hE3.get b (by omega), hE1.get b (by first | omega | (simp only [AH.zN, AH.zP] <;> omega)), AH.gNo (by simp only [AH.zN]; omega), AH.gNo (by omega)]
       by_cases hd : someGt n (wo n x.1)
       ·rw [decide_eq_true hd] at e10
        have hi : insP (n, t) (wo n x.1) = insGo (n, t) (wo n x.1) := by have := insP_end (x := (n, t)) (l := wo n x.1); rwa [if_pos hd] at this
        have r1 := (hX.get (A.size + 1) (by omega)).trans ((hEB.get (A.size + 1) (by omega)).trans u2)
        simp (maxSteps := 2000000) (disch := first | omega | (simp only [AH.zN, AH.zP] <;> omega) | fail) only [amR Tryd.prog ro X, amS, seval, reduceCtorEq, ty3, ty4, ty9, ty50, ty51, ty53, ty129, ty141, e1, e2, e6, e7, e8, e9, e10, gX, r1]
        exact fin A' s' hX (by rw [← hi]; exact hacc)
       ·rw [decide_eq_false hd] at e10
        have hi : insP (n, t) (wo n x.1) ++ [(n, t)] = insGo (n, t) (wo n x.1) := by have := insP_end (x := (n, t)) (l := wo n x.1); rwa [if_neg hd] at this
        obtain ⟨u', H', hap, hs', hg, _, _⟩ := hacc.lit (P := Tryd.prog) (ro := ro) (t := 50) (n := 1) (vs := [.string n, .string t]) (xs := [(n, t)]) (by omega) (by simp only [ty50]; rfl) rfl (Reps.one (rep_Source.2 ⟨rfl, rfl, hn, ht⟩)) (.inr (by simp)) (by rw [List.take_length] at hpl; omega) (by omega)
        rw [show Dat.w TSource = 2 from rfl] at hap
        have hE' := hg.ext hX (Nat.le_refl _)
        have gH := (hE'.get A3.size (by omega)).trans gB
        have r1 := (hE'.get (A.size + 1) (by omega)).trans ((hEB.get (A.size + 1) (by omega)).trans u2)
        simp (maxSteps := 2000000) (disch := first | omega | (simp only [AH.zN, AH.zP] <;> omega) | fail) only [amR Tryd.prog ro X, amS, seval, reduceCtorEq, ty3, ty4, ty9, ty50, ty51, ty53, ty129, ty141, e1, e2, e6, e7, e8, e9, e10, hap, gH, r1]
        exact fin H' u' hE' (by rw [← hi]; exact hs')
  ·have kk : ¬ NameOk n ∨ 2000 < t.size := .inl k2
   simp (maxSteps := 2000000) (disch := first | omega | (simp only [AH.zN, AH.zP] <;> omega) | fail) only [amR Tryd.prog ro X, amS, seval, reduceCtorEq, ty3, ty4, ty9, ty50, ty51, ty53, ty129, ty141, hE1.get, k2]
   exact ⟨_, _, by rw [putSrcR_2 k1 kk], by rw [putSrcR_2 k1 kk]; exact Drop.zeroSp_rep _, Fresh.nil _ _, (by ((repeat' (first | exact Ext.refl _ | assumption | refine Ext.trans ?_ (Ext.new _ _) | refine Ext.put ?_ ?_ _ | refine Ext.trans ?_ (by assumption))) <;> (first | omega | (simp only [AH.zN, AH.zP] <;> omega))))⟩
 ·simp (maxSteps := 2000000) (disch := first | omega | (simp only [AH.zN, AH.zP] <;> omega) | fail) only [amR Tryd.prog ro X, amS, seval, reduceCtorEq, ty3, ty4, ty9, ty50, ty51, ty53, ty129, ty141, hE1.get, k1]
  exact ⟨_, _, by rw [putSrcR_1 k1], by rw [putSrcR_1 k1]; exact Drop.zeroSp_rep _, Fresh.nil _ _, (by ((repeat' (first | exact Ext.refl _ | assumption | refine Ext.trans ?_ (Ext.new _ _) | refine Ext.put ?_ ?_ _ | refine Ext.trans ?_ (by assumption))) <;> (first | omega | (simp only [AH.zN, AH.zP] <;> omega))))⟩
end Go.Proofs.YtjlbcofopapajaaDoor.Amu.PutSS
