import Derived.Test.YtjlbcofopapajaaDoorAmuTy
import Derived.Test.YtjlbcofopapajaaDoorAmRun
import Derived.Test.YtjlbcofopapajaaDoorAmBld
import Derived.Test.YtjlbcofopapajaaDoorAmuStore
import Derived.Test.YtjlbcofopapajaaDoorAmuItoa
import Derived.Test.YtjlbcofopapajaaDoorAmuQuote
import Derived.Test.YtjlbcofopapajaaDoorAmuLine
import Derived.Test.YtjlbcofopapajaaDoorAmuBld
import Derived.Test.YtjlbcofopapajaaDoorAmuHex
namespace Go.Proofs.YtjlbcofopapajaaDoor.Amu.Psto
open Go Go.AM Go.Proofs
set_option linter.all false
open Ty
variable {ro : Nat} {X : FuncId → List Value → AH → ARes → AH → Prop}
set_option maxRecDepth 10000
theorem impl_a (hXB : ∀ f args A r A', BldX 120 54 101 5 ro f args A r A' → X f args A r A') (A : AH) (hro : ro ≤ A.size) (hT : Tab 0 A) (hP : Pow 1 A) (s1 s2 : Sl) (x : TStore) (F1 F2 : List Nat) (h1 : SlR A s1 x.2.1 F1) (h2 : SlR A s2 x.2.2 F2) :
 ACalls Tryd.prog ro X 19 [.agg #[.int .i64 x.1, s1.v, s2.v]] A (fun r A' => r = .ret (.string (storeS x)) ∧ Ext A A') := by
 refine ACalls.enterQ (rs := [.tmp 2]) Tryd.func19 rfl (by kernel_rfl) rfl ?_
 have hl1 := h1.len
 have hl2 := h2.len
 simp (maxSteps := 2000000) (disch := first | omega | (simp only [AH.zN, AH.zP] <;> omega) | fail) only [amR Tryd.prog ro X, amS, seval, reduceCtorEq, ty3, ty4, ty9, ty27, ty29, ty33, ty39, ty41, ty69, ty97, ty99, ty101, ty116, ty118, ty120]
 refine (Store.implStore_a _ (by first | omega | (simp only [AH.zN, AH.zP] <;> omega)) (hT.ext (by ((repeat' (first | exact Ext.refl _ | assumption | refine Ext.trans ?_ (Ext.new _ _) | refine Ext.put ?_ ?_ _ | refine Ext.trans ?_ (by assumption))) <;> (first | omega | (simp only [AH.zN, AH.zP] <;> omega))))) s1 s2 x F1 F2 (h1.ext (by ((repeat' (first | exact Ext.refl _ | assumption | refine Ext.trans ?_ (Ext.new _ _) | refine Ext.put ?_ ?_ _ | refine Ext.trans ?_ (by assumption))) <;> (first | omega | (simp only [AH.zN, AH.zP] <;> omega))))) (h2.ext (by ((repeat' (first | exact Ext.refl _ | assumption | refine Ext.trans ?_ (Ext.new _ _) | refine Ext.put ?_ ?_ _ | refine Ext.trans ?_ (by assumption))) <;> (first | omega | (simp only [AH.zN, AH.zP] <;> omega)))))).mono ?_
 rintro r A1 ⟨rfl, hE1⟩
 have z1 := hE1.size
 simp only [AH.zN] at z1
 have b1 : A1.get A.size = .cells [.int .i64 x.1, s1.v, s2.v] 3 := (hE1.get A.size (by first | omega | (simp only [AH.zN, AH.zP] <;> omega))).trans (AH.gNs _ _)
 by_cases hk : StoreOk x
 ·have hsz := (stoL_size hk).1
  obtain ⟨w1, w2, w3, w4, w5, w6⟩ := id hk
  have w18 := w1.2
  simp (maxSteps := 2000000) (disch := first | omega | (simp only [AH.zN, AH.zP] <;> omega) | fail) only [amR Tryd.prog ro X, amS, seval, reduceCtorEq, ty3, ty4, ty9, ty27, ty29, ty33, ty39, ty41, ty69, ty97, ty99, ty101, ty116, ty118, ty120, hk, b1]
  generalize hB : A1.new _ = B
  have zB : B.size = A1.size + 1 := by rw [← hB]; rfl
  have hEB : Ext A1 B := by rw [← hB]; exact Ext.new _ _
  have gB : B.get A1.size = .cells [.pointer none, Sl.nil.v] (tagB 101) := by rw [← hB]; exact AH.gNs _ _
  have bB := (hEB.get A.size (by omega)).trans b1
  clear hB
  have hEA : Ext A B := (by ((repeat' (first | exact Ext.refl _ | assumption | refine Ext.trans ?_ (Ext.new _ _) | refine Ext.put ?_ ?_ _ | refine Ext.trans ?_ (by assumption))) <;> (first | omega | (simp only [AH.zN, AH.zP] <;> omega))))
  have hw : (x.1 : Int) = ((x.1.toNat : Nat) : Int) := by have := w1.1; omega
  have hbv : BldV 101 5 B.size B A1.size [] ⟨#[]⟩ := .start (by omega) gB
  have hI := Itoa.Itoa_a (ro := ro) (X := X) B (by omega) (hP.ext hEA) x.1.toNat (by omega)
  rw [← hw] at hI
  refine hI.mono ?_
  rintro r C ⟨rfl, hEC⟩
  have zC := hEC.size
  have hst := stH_size w18
  have hst2 : ((⟨#[115, 116, 111, 114, 101, 32]⟩ : ByteArray) ++ decS x.1.toNat).size ≤ 15 := hst
  have hdz := decS_size x.1.toNat
  simp (maxSteps := 2000000) (disch := first | omega | (simp only [AH.zN, AH.zP] <;> omega) | fail) only [amR Tryd.prog ro X, amS, seval, reduceCtorEq, ty3, ty4, ty9, ty27, ty29, ty33, ty39, ty41, ty69, ty97, ty99, ty101, ty116, ty118, ty120]
  refine (Bld.write2_a hXB C B.size A1.size (by omega) (by omega) (by omega) [] _ (stH x.1 ++ ⟨#[10]⟩) (hbv.ext hEC) (by have e0 : (⟨#[]⟩ : ByteArray).size = 0 := rfl; have e1 : (⟨#[10]⟩ : ByteArray).size = 1 := rfl; rw [e0, ByteArray.size_append]; omega)).mono ?_
  rintro r D ⟨F', rfl, hb, hW⟩
  have hW := hW.start hEC
  replace hb : BldV 101 5 B.size D A1.size F' (joinS ([stH x.1] ++ (x.2.1.take 0).map txS)) := by
   rw [show joinS ([stH x.1] ++ (x.2.1.take 0).map txS) = ⟨#[]⟩ ++ (stH x.1 ++ ⟨#[10]⟩) from by simp [joinS]; apply ByteArray.ext; simp]
   exact hb
  have zD := hW.1
  have bD := (hW.low (by simp) A.size (by omega) (by omega)).trans bB
  simp (maxSteps := 2000000) (disch := first | omega | (simp only [AH.zN, AH.zP] <;> omega) | fail) only [amR Tryd.prog ro X, amS, seval, reduceCtorEq, ty3, ty4, ty9, ty27, ty29, ty33, ty39, ty41, ty69, ty97, ty99, ty101, ty116, ty118, ty120, bD]
  refine Wp.loopC (fun k e A' => e 1 = .pointer (some ⟨A.size, 0, none⟩) ∧ e 3 = .pointer (some ⟨A1.size, 0, none⟩) ∧ e 23 = s1.v ∧ e 24 = .int .i64 x.2.1.length ∧
   ∃ i : Nat, i ≤ x.2.1.length ∧ k = x.2.1.length - i ∧ e 25 = .int .i64 i ∧ ∃ F, BldV 101 5 B.size A' A1.size F (joinS ([stH x.1] ++ (x.2.1.take i).map txS)) ∧ Wr A1.size B [] A' F) (x.2.1.length - 0) ?_ ?_
  ·simp (maxSteps := 2000000) (disch := first | omega | (simp only [AH.zN, AH.zP] <;> omega) | fail) only [amV, amH, amQ, amL, amN Tryd.prog, amS, seval, reduceCtorEq, ty3, ty4, ty9, ty27, ty29, ty33, ty39, ty41, ty69, ty97, ty99, ty101, ty116, ty118, ty120, hl1]
   exact ⟨0, by omega, rfl, rfl, F', hb, hW⟩
  ·rintro k e A' ⟨e1, e3, e23, e24, i, hi, rfl, e25, F, hb, hW⟩
   have zA := hW.1
   have hEA' := hW.toExt hEA (by omega)
   have bA := (hW.low (by simp) A.size (by omega) (by omega)).trans bB
   simp (maxSteps := 2000000) (disch := first | omega | (simp only [AH.zN, AH.zP] <;> omega) | fail) only [amR Tryd.prog ro X, amS, seval, reduceCtorEq, ty3, ty4, ty9, ty27, ty29, ty33, ty39, ty41, ty69, ty97, ty99, ty101, ty116, ty118, ty120, e24, e25]
   refine CondB.split (fun h => ?_) (fun h => ?_)
   ·have hil : i < x.2.1.length := by simp at h; omega
    obtain ⟨n1, b1, m1, i1, c1, q1⟩ := (h1.ext hEA').str hil
    rw [aCell_eq] at c1
    simp (maxSteps := 2000000) (disch := first | omega | (simp only [AH.zN, AH.zP] <;> omega) | fail) only [amR Tryd.prog ro X, amS, seval, reduceCtorEq, ty3, ty4, ty9, ty27, ty29, ty33, ty39, ty41, ty69, ty97, ty99, ty101, ty116, ty118, ty120, e3, e23, e24, e25, n1, c1]
    have htz := w5 _ (List.getElem_mem hil)
    refine (Quote.quote_a A' (by omega) x.2.1[i] (by omega)).mono ?_
    rintro r G ⟨rfl, hEG⟩
    have zG := hEG.size
    have hts := txS_size htz
    have hqz := quoteS_size x.2.1[i]
    have hts2 : ((⟨#[116, 101, 120, 116, 32]⟩ : ByteArray) ++ quoteS x.2.1[i]).size ≤ 6013 := hts
    simp (maxSteps := 2000000) (disch := first | omega | (simp only [AH.zN, AH.zP] <;> omega) | fail) only [amR Tryd.prog ro X, amS, seval, reduceCtorEq, ty3, ty4, ty9, ty27, ty29, ty33, ty39, ty41, ty69, ty97, ty99, ty101, ty116, ty118, ty120, e3]
    have htl := tail_size hk i
    refine (Bld.write2_a hXB G B.size A1.size (by omega) (by omega) (by omega) F _ (txS x.2.1[i] ++ ⟨#[10]⟩) (hb.ext hEG) (by have e1 : (⟨#[10]⟩ : ByteArray).size = 1 := rfl; rw [ByteArray.size_append]; omega)).mono ?_
    rintro r H ⟨F2, rfl, hb2, hW2⟩
    replace hb2 : BldV 101 5 B.size H A1.size F2 (joinS ([stH x.1] ++ (x.2.1.take (i + 1)).map txS)) := by rw [joinS_map_succ _ _ hil]; exact hb2
    simp (maxSteps := 2000000) (disch := first | omega | (simp only [AH.zN, AH.zP] <;> omega) | fail) only [amR Tryd.prog ro X, amS, seval, reduceCtorEq, ty3, ty4, ty9, ty27, ty29, ty33, ty39, ty41, ty69, ty97, ty99, ty101, ty116, ty118, ty120, e1, e3, e23, e24, e25]
    exact ⟨x.2.1.length - (i + 1), by omega, i + 1, by omega, rfl, by simp, F2, hb2, (hW.ext hEG).trans hW2⟩
   ·have hil : i = x.2.1.length := by simp at h; omega
    subst hil
    have htl := tail_size hk x.2.1.length
    rw [List.take_length] at hb htl
    simp (maxSteps := 2000000) (disch := first | omega | (simp only [AH.zN, AH.zP] <;> omega) | fail) only [amR Tryd.prog ro X, amS, seval, reduceCtorEq, ty3, ty4, ty9, ty27, ty29, ty33, ty39, ty41, ty69, ty97, ty99, ty101, ty116, ty118, ty120, e1, bA]
    refine Wp.loopC (fun k e A2 => e 3 = .pointer (some ⟨A1.size, 0, none⟩) ∧ e 36 = s2.v ∧ e 37 = .int .i64 x.2.2.length ∧
     ∃ i : Nat, i ≤ x.2.2.length ∧ k = x.2.2.length - i ∧ e 38 = .int .i64 i ∧ ∃ F, BldV 101 5 B.size A2 A1.size F (joinS ([stH x.1] ++ x.2.1.map txS ++ recsL (x.2.2.take i))) ∧ Wr A1.size B [] A2 F ∧ (joinS ([stH x.1] ++ x.2.1.map txS ++ recsL (x.2.2.take i))).size ≤ 31000000) (x.2.2.length - 0) ?_ ?_
    ·simp (maxSteps := 2000000) (disch := first | omega | (simp only [AH.zN, AH.zP] <;> omega) | fail) only [amV, amH, amQ, amL, amN Tryd.prog, amS, seval, reduceCtorEq, ty3, ty4, ty9, ty27, ty29, ty33, ty39, ty41, ty69, ty97, ty99, ty101, ty116, ty118, ty120, hl2, e1, e3]
     exact ⟨0, by omega, rfl, rfl, F, by simpa [recsL] using hb, hW, by simpa [recsL] using htl⟩
    ·clear hb htl hW zA hEA' bA e1 e3 e23 e24 e25
     rintro k e A2 ⟨e3, e36, e37, i, hi, rfl, e38, F, hb, hW, hpl⟩
     have zA := hW.1
     have hEA' := hW.toExt hEA (by omega)
     simp (maxSteps := 2000000) (disch := first | omega | (simp only [AH.zN, AH.zP] <;> omega) | fail) only [amR Tryd.prog ro X, amS, seval, reduceCtorEq, ty3, ty4, ty9, ty27, ty29, ty33, ty39, ty41, ty69, ty97, ty99, ty101, ty116, ty118, ty120, e37, e38]
     refine CondB.split (fun h => ?_) (fun h => ?_)
     ·have hil : i < x.2.2.length := by simp at h; omega
      have hR := w6 _ (List.getElem_mem hil)
      obtain ⟨n1, b1, i1, t1, t2, G1, G2, c0, r1, r2, rz, _, _⟩ := h2.record hil
      have c1 : rowK (s2.o + i * 3) 3 (A2.get s2.b) = some [t1.v, t2.v, .string x.2.2[i].2.2] := by rw [hEA'.get _ b1]; exact c0
      have hnx : recsL (x.2.2.take (i + 1)) = recsL (x.2.2.take i) ++ recL x.2.2[i] := recsL_take_succ hil
      have hle := stoL_take_le x (i + 1)
      rw [hnx, ← List.append_assoc] at hle
      generalize hr : x.2.2[i] = r at hR c1 r1 r2 rz hnx hle
      generalize hL : [stH x.1] ++ x.2.1.map txS ++ recsL (x.2.2.take i) = L at hb hpl hle
      have hrw : (r.2.2.size : Int) = x.1 := hR.2.2.1
      have hrz := recH_size w18 hR
      have hrz2 : ((⟨#[114, 101, 99, 111, 114, 100, 32]⟩ : ByteArray) ++ hexS r.2.2).size ≤ 23 := hrz
      have hxz := hexS_size r.2.2
      have l1 := r1.len
      have l2 := r2.len
      have l3 := hR.1.2.1
      have l4 := hR.2.1
      have e10 : (⟨#[10]⟩ : ByteArray).size = 1 := rfl
      simp (maxSteps := 2000000) (disch := first | omega | (simp only [AH.zN, AH.zP] <;> omega) | fail) only [amR Tryd.prog ro X, amS, seval, reduceCtorEq, ty3, ty4, ty9, ty27, ty29, ty33, ty39, ty41, ty69, ty97, ty99, ty101, ty116, ty118, ty120, e3, e36, e37, e38, n1, c1]
      generalize hG : AH.put (A2.new _) A2.size _ = G
      have zG : G.size = A2.size + 1 := by rw [← hG]; rfl
      have hEG : Ext A2 G := by rw [← hG]; exact (by ((repeat' (first | exact Ext.refl _ | assumption | refine Ext.trans ?_ (Ext.new _ _) | refine Ext.put ?_ ?_ _ | refine Ext.trans ?_ (by assumption))) <;> (first | omega | (simp only [AH.zN, AH.zP] <;> omega))))
      have gG : G.get A2.size = .cells [t1.v, t2.v, .string r.2.2] 3 := by rw [← hG]; exact AH.gPs _ _ _
      clear hG
      have hf := hb.foot
      have hnF : A2.size ∉ F := fun hm => by have := (hf _ hm).2.1; omega
      refine (Hex.hexOf_a G (by omega) r.2.2 (by omega)).mono ?_
      rintro q H ⟨rfl, hEH⟩
      have zH := hEH.size
      simp (maxSteps := 2000000) (disch := first | omega | (simp only [AH.zN, AH.zP] <;> omega) | fail) only [amR Tryd.prog ro X, amS, seval, reduceCtorEq, ty3, ty4, ty9, ty27, ty29, ty33, ty39, ty41, ty69, ty97, ty99, ty101, ty116, ty118, ty120, e3]
      refine (Bld.write2_a hXB H B.size A1.size (by omega) (by omega) (by omega) F _ (recH r ++ ⟨#[10]⟩) ((hb.ext hEG).ext hEH) (by rw [ByteArray.size_append]; omega)).mono ?_
      rintro q J ⟨F3, rfl, hb3, hW3⟩
      replace hW3 := hW3.start hEH
      have zJ := hW3.1
      have gJ := (hW3.2.1 A2.size (by omega) (by omega) hnF).trans gG
      replace hb3 : BldV 101 5 B.size J A1.size F3 (joinS (L ++ [recH r] ++ (r.1.take 0).map doS)) := by
       rw [List.take_zero, List.map_nil, List.append_nil, joinS_snoc]; exact hb3
      simp (maxSteps := 2000000) (disch := first | omega | (simp only [AH.zN, AH.zP] <;> omega) | fail) only [amR Tryd.prog ro X, amS, seval, reduceCtorEq, ty3, ty4, ty9, ty27, ty29, ty33, ty39, ty41, ty69, ty97, ty99, ty101, ty116, ty118, ty120, gJ, e36, e37, e38, l1]
      refine Wp.loopC (fun k e A4 => e 3 = .pointer (some ⟨A1.size, 0, none⟩) ∧ e 7 = .pointer (some ⟨A2.size, 0, none⟩) ∧ e 36 = s2.v ∧ e 37 = .int .i64 x.2.2.length ∧ e 38 = .int .i64 i ∧ e 50 = t1.v ∧ e 51 = .int .i64 r.1.length ∧
       ∃ j : Nat, j ≤ r.1.length ∧ k = r.1.length - j ∧ e 52 = .int .i64 j ∧ ∃ F4, BldV 101 5 B.size A4 A1.size F4 (joinS (L ++ [recH r] ++ (r.1.take j).map doS)) ∧ Wr A1.size G F A4 F4) (r.1.length - 0) ?_ ?_
      ·simp (maxSteps := 2000000) (disch := first | omega | (simp only [AH.zN, AH.zP] <;> omega) | fail) only [amV, amH, amQ, amL, amN Tryd.prog, amS, seval, reduceCtorEq, ty3, ty4, ty9, ty27, ty29, ty33, ty39, ty41, ty69, ty97, ty99, ty101, ty116, ty118, ty120, e3, e36, e37, e38]
       exact ⟨0, by omega, rfl, rfl, F3, by simpa using hb3, hW3⟩
      ·clear gJ zJ hW3 hb3
       rintro k e A4 ⟨e3, e7, e36, e37, e38, e50, e51, j, hj, rfl, e52, F4, hb4, hW4⟩
       have zA4 := hW4.1
       have hW4' := (hW.ext hEG).trans hW4
       have hEA4 := hW4'.toExt hEA (by omega)
       have g4 := (hW4.2.1 A2.size (by omega) (by omega) hnF).trans gG
       simp (maxSteps := 2000000) (disch := first | omega | (simp only [AH.zN, AH.zP] <;> omega) | fail) only [amR Tryd.prog ro X, amS, seval, reduceCtorEq, ty3, ty4, ty9, ty27, ty29, ty33, ty39, ty41, ty69, ty97, ty99, ty101, ty116, ty118, ty120, e51, e52]
       refine CondB.split (fun h => ?_) (fun h => ?_)
       ·have hjl : j < r.1.length := by simp at h; omega
        obtain ⟨n2, b2, i2, c2, q2⟩ := (r1.ext hEA4).ins hjl
        obtain ⟨v1, v2, v3, v4, v5⟩ := insB3 (hR.1.2.2 _ (List.getElem_mem hjl))
        have hds := doS_size v3 v5
        have hls := lineS_size r.1[j] v3 v5
        have hds2 : ((⟨#[100, 111, 32]⟩ : ByteArray) ++ lineS r.1[j]).size ≤ 6012 := hds
        have hpz := part1_size w18 hR j
        simp (maxSteps := 2000000) (disch := first | omega | (simp only [AH.zN, AH.zP] <;> omega) | fail) only [amR Tryd.prog ro X, amS, seval, reduceCtorEq, ty3, ty4, ty9, ty27, ty29, ty33, ty39, ty41, ty69, ty97, ty99, ty101, ty116, ty118, ty120, e3, e7, e36, e37, e38, e50, e51, e52, n2, c2]
        generalize hG5 : AH.put (A4.new _) A4.size _ = G5
        have z5 : G5.size = A4.size + 1 := by rw [← hG5]; rfl
        have hE5 : Ext A4 G5 := by rw [← hG5]; exact (by ((repeat' (first | exact Ext.refl _ | assumption | refine Ext.trans ?_ (Ext.new _ _) | refine Ext.put ?_ ?_ _ | refine Ext.trans ?_ (by assumption))) <;> (first | omega | (simp only [AH.zN, AH.zP] <;> omega))))
        clear hG5
        have hEA5 := hEA4.trans hE5
        refine (Line.insLine_a G5 (by omega) (hT.ext hEA5) (hP.ext hEA5) r.1[j] v1 v2 v3 v4 v5).mono ?_
        rintro q G6 ⟨rfl, hE6⟩
        have z6 := hE6.size
        simp (maxSteps := 2000000) (disch := first | omega | (simp only [AH.zN, AH.zP] <;> omega) | fail) only [amR Tryd.prog ro X, amS, seval, reduceCtorEq, ty3, ty4, ty9, ty27, ty29, ty33, ty39, ty41, ty69, ty97, ty99, ty101, ty116, ty118, ty120, e3]
        refine (Bld.write2_a hXB G6 B.size A1.size (by omega) (by omega) (by omega) F4 _ (doS r.1[j] ++ ⟨#[10]⟩) ((hb4.ext hE5).ext hE6) (by rw [List.append_assoc, joinS_app_size, ByteArray.size_append]; omega)).mono ?_
        rintro q G7 ⟨F7, rfl, hb7, hW7⟩
        replace hb7 : BldV 101 5 B.size G7 A1.size F7 (joinS (L ++ [recH r] ++ (r.1.take (j + 1)).map doS)) := by rw [joinS_map_succ _ _ hjl]; exact hb7
        have hW8 := ((hW4.ext hE5).ext hE6).trans hW7
        simp (maxSteps := 2000000) (disch := first | omega | (simp only [AH.zN, AH.zP] <;> omega) | fail) only [amR Tryd.prog ro X, amS, seval, reduceCtorEq, ty3, ty4, ty9, ty27, ty29, ty33, ty39, ty41, ty69, ty97, ty99, ty101, ty116, ty118, ty120, e3, e7, e36, e37, e38, e50, e51, e52]
        exact ⟨r.1.length - (j + 1), by omega, j + 1, by omega, rfl, by simp, F7, by simpa using hb7, hW8⟩
       ·have hjl : j = r.1.length := by simp at h; omega
        subst hjl
        rw [List.take_length] at hb4
        simp (maxSteps := 2000000) (disch := first | omega | (simp only [AH.zN, AH.zP] <;> omega) | fail) only [amR Tryd.prog ro X, amS, seval, reduceCtorEq, ty3, ty4, ty9, ty27, ty29, ty33, ty39, ty41, ty69, ty97, ty99, ty101, ty116, ty118, ty120, e7, g4]
        refine Wp.loopC (fun k e A4 => e 3 = .pointer (some ⟨A1.size, 0, none⟩) ∧ e 36 = s2.v ∧ e 37 = .int .i64 x.2.2.length ∧ e 38 = .int .i64 i ∧ e 63 = t2.v ∧ e 64 = .int .i64 r.2.1.length ∧
         ∃ j : Nat, j ≤ r.2.1.length ∧ k = r.2.1.length - j ∧ e 65 = .int .i64 j ∧ ∃ F4, BldV 101 5 B.size A4 A1.size F4 (joinS (L ++ ([recH r] ++ r.1.map doS) ++ (r.2.1.take j).map glS)) ∧ Wr A1.size G F A4 F4) (r.2.1.length - 0) ?_ ?_
        ·simp (maxSteps := 2000000) (disch := first | omega | (simp only [AH.zN, AH.zP] <;> omega) | fail) only [amV, amH, amQ, amL, amN Tryd.prog, amS, seval, reduceCtorEq, ty3, ty4, ty9, ty27, ty29, ty33, ty39, ty41, ty69, ty97, ty99, ty101, ty116, ty118, ty120, e3, e36, e37, e38, l2]
         exact ⟨0, by omega, rfl, rfl, F4, by simpa using hb4, hW4⟩
        ·clear g4 hEA4 hW4' zA4 hW4 hb4 e3 e7 e36 e37 e38 e50 e51 e52
         rintro k e A4 ⟨e3, e36, e37, e38, e63, e64, j, hj, rfl, e65, F4, hb4, hW4⟩
         have zA4 := hW4.1
         have hW4' := (hW.ext hEG).trans hW4
         have hEA4 := hW4'.toExt hEA (by omega)
         simp (maxSteps := 2000000) (disch := first | omega | (simp only [AH.zN, AH.zP] <;> omega) | fail) only [amR Tryd.prog ro X, amS, seval, reduceCtorEq, ty3, ty4, ty9, ty27, ty29, ty33, ty39, ty41, ty69, ty97, ty99, ty101, ty116, ty118, ty120, e64, e65]
         refine CondB.split (fun h => ?_) (fun h => ?_)
         ·have hjl : j < r.2.1.length := by simp at h; omega
          obtain ⟨n2, b2, i2, c2, q2, q3⟩ := (r2.ext hEA4).glance hjl
          have hgo := hR.2.2.2 _ (List.getElem_mem hjl)
          have hgz := glS_size w18 hgo
          have hpz := part2_size w18 hR j
          have hn60 := hgo.1.2.1
          have hw8 := hgo.2
          have hxz2 := hexS_size r.2.1[j].2.2
          generalize hg0 : r.2.1[j] = g at hgo hgz hn60 hw8 hxz2 c2 q2 q3
          have e32 : (⟨#[32]⟩ : ByteArray).size = 1 := rfl
          have hz4 : (⟨#[97, 115, 107, 32]⟩ : ByteArray).size = 4 := rfl
          have hz5 : (⟨#[104, 97, 115, 32]⟩ : ByteArray).size = 4 := rfl
          have fin : ∀ G6, Ext A4 G6 → ACalls Tryd.prog ro X 52 [.pointer (some ⟨A1.size, 0, none⟩), .string (glS g ++ ⟨#[10]⟩)] G6 (fun q G7 => ∃ F7, q = .ret (.tuple #[.int .i64 (glS g ++ ⟨#[10]⟩).size, .nilIface]) ∧ BldV 101 5 B.size G7 A1.size F7 (joinS (L ++ ([recH r] ++ r.1.map doS) ++ (r.2.1.take (j + 1)).map glS)) ∧ Wr A1.size G F G7 F7) := by
           intro G6 hE6
           have z6 := hE6.size
           refine (Bld.write2_a hXB G6 B.size A1.size (by omega) (by omega) (by omega) F4 _ (glS g ++ ⟨#[10]⟩) (hb4.ext hE6) (by rw [List.append_assoc, joinS_app_size, ByteArray.size_append]; omega)).mono ?_
           rintro q G7 ⟨F7, rfl, hb7, hW7⟩
           exact ⟨F7, rfl, by rw [joinS_map_succ _ _ hjl, hg0]; exact hb7, (hW4.ext hE6).trans hW7⟩
          by_cases ha : g.2.1 = true
          ·have f0 : ((⟨#[97, 115, 107, 32]⟩ : ByteArray) ++ g.1).size ≤ 64 := by rw [ByteArray.size_append]; omega
           have f1 : ((⟨#[97, 115, 107, 32]⟩ : ByteArray) ++ g.1 ++ ⟨#[32]⟩).size ≤ 65 := by rw [ByteArray.size_append]; omega
           have f2 : ((⟨#[97, 115, 107, 32]⟩ : ByteArray) ++ g.1 ++ ⟨#[32]⟩ ++ hexS g.2.2).size ≤ 81 := by rw [ByteArray.size_append]; omega
           have f3 : (⟨#[97, 115, 107, 32]⟩ : ByteArray) ++ g.1 ++ ⟨#[32]⟩ ++ hexS g.2.2 = glS g := by unfold glS; rw [if_pos ha]
           simp (maxSteps := 2000000) (disch := first | omega | (simp only [AH.zN, AH.zP] <;> omega) | fail) only [amR Tryd.prog ro X, amS, seval, reduceCtorEq, ty3, ty4, ty9, ty27, ty29, ty33, ty39, ty41, ty69, ty97, ty99, ty101, ty116, ty118, ty120, e3, e36, e37, e38, e63, e64, e65, n2, c2, ha]
           generalize hG5 : AH.put (A4.new _) A4.size _ = G5
           have z5 : G5.size = A4.size + 1 := by rw [← hG5]; rfl
           have hE5 : Ext A4 G5 := by rw [← hG5]; exact (by ((repeat' (first | exact Ext.refl _ | assumption | refine Ext.trans ?_ (Ext.new _ _) | refine Ext.put ?_ ?_ _ | refine Ext.trans ?_ (by assumption))) <;> (first | omega | (simp only [AH.zN, AH.zP] <;> omega))))
           have g5 : G5.get A4.size = .cells [.string g.1, .bool true, .string g.2.2] 3 := by rw [← hG5]; exact AH.gPs _ _ _
           clear hG5
           refine Wp.runG [7] (by kernel_rfl) (.inr (by intro v e A h; simp only [amK, amQ, thenQ, blockQ, endQ, reduceCtorEq, false_and, exists_false] at h)) ?_
           simp (maxSteps := 2000000) (disch := first | omega | (simp only [AH.zN, AH.zP] <;> omega) | fail) only [amR Tryd.prog ro X, amS, seval, reduceCtorEq, ty3, ty4, ty9, ty27, ty29, ty33, ty39, ty41, ty69, ty97, ty99, ty101, ty116, ty118, ty120, g5, ha]
           refine (Hex.hexOf_a G5 (by omega) g.2.2 (by omega)).mono ?_
           rintro q G6 ⟨rfl, hE6⟩
           have z6 := hE6.size
           simp (maxSteps := 2000000) (disch := first | omega | (simp only [AH.zN, AH.zP] <;> omega) | fail) only [amR Tryd.prog ro X, amS, seval, reduceCtorEq, ty3, ty4, ty9, ty27, ty29, ty33, ty39, ty41, ty69, ty97, ty99, ty101, ty116, ty118, ty120, e3]
           rw [f3]
           refine ⟨fun b hb => hE6.get b hb, ?_⟩
           refine (fin G6 (hE5.trans hE6)).mono ?_
           rintro q G7 ⟨F7, rfl, hb7, hW7⟩
           simp (maxSteps := 2000000) (disch := first | omega | (simp only [AH.zN, AH.zP] <;> omega) | fail) only [amR Tryd.prog ro X, amS, seval, reduceCtorEq, ty3, ty4, ty9, ty27, ty29, ty33, ty39, ty41, ty69, ty97, ty99, ty101, ty116, ty118, ty120, e3, e36, e37, e38, e63, e64, e65]
           exact ⟨r.2.1.length - (j + 1), by omega, j + 1, by omega, rfl, by simp, F7, by simpa using hb7, hW7⟩
          ·have f0 : ((⟨#[104, 97, 115, 32]⟩ : ByteArray) ++ g.1).size ≤ 64 := by rw [ByteArray.size_append]; omega
           have f1 : ((⟨#[104, 97, 115, 32]⟩ : ByteArray) ++ g.1 ++ ⟨#[32]⟩).size ≤ 65 := by rw [ByteArray.size_append]; omega
           have f2 : ((⟨#[104, 97, 115, 32]⟩ : ByteArray) ++ g.1 ++ ⟨#[32]⟩ ++ hexS g.2.2).size ≤ 81 := by rw [ByteArray.size_append]; omega
           have f3 : (⟨#[104, 97, 115, 32]⟩ : ByteArray) ++ g.1 ++ ⟨#[32]⟩ ++ hexS g.2.2 = glS g := by unfold glS; rw [if_neg ha]
           simp (maxSteps := 2000000) (disch := first | omega | (simp only [AH.zN, AH.zP] <;> omega) | fail) only [amR Tryd.prog ro X, amS, seval, reduceCtorEq, ty3, ty4, ty9, ty27, ty29, ty33, ty39, ty41, ty69, ty97, ty99, ty101, ty116, ty118, ty120, e3, e36, e37, e38, e63, e64, e65, n2, c2, ha]
           generalize hG5 : AH.put (A4.new _) A4.size _ = G5
           have z5 : G5.size = A4.size + 1 := by rw [← hG5]; rfl
           have hE5 : Ext A4 G5 := by rw [← hG5]; exact (by ((repeat' (first | exact Ext.refl _ | assumption | refine Ext.trans ?_ (Ext.new _ _) | refine Ext.put ?_ ?_ _ | refine Ext.trans ?_ (by assumption))) <;> (first | omega | (simp only [AH.zN, AH.zP] <;> omega))))
           have g5 : G5.get A4.size = .cells [.string g.1, .bool false, .string g.2.2] 3 := by rw [← hG5]; exact AH.gPs _ _ _
           clear hG5
           refine Wp.runG [7] (by kernel_rfl) (.inr (by intro v e A h; simp only [amK, amQ, thenQ, blockQ, endQ, reduceCtorEq, false_and, exists_false] at h)) ?_
           simp (maxSteps := 2000000) (disch := first | omega | (simp only [AH.zN, AH.zP] <;> omega) | fail) only [amR Tryd.prog ro X, amS, seval, reduceCtorEq, ty3, ty4, ty9, ty27, ty29, ty33, ty39, ty41, ty69, ty97, ty99, ty101, ty116, ty118, ty120, g5, ha]
           refine (Hex.hexOf_a G5 (by omega) g.2.2 (by omega)).mono ?_
           rintro q G6 ⟨rfl, hE6⟩
           have z6 := hE6.size
           simp (maxSteps := 2000000) (disch := first | omega | (simp only [AH.zN, AH.zP] <;> omega) | fail) only [amR Tryd.prog ro X, amS, seval, reduceCtorEq, ty3, ty4, ty9, ty27, ty29, ty33, ty39, ty41, ty69, ty97, ty99, ty101, ty116, ty118, ty120, e3]
           rw [f3]
           refine ⟨fun b hb => hE6.get b hb, ?_⟩
           refine (fin G6 (hE5.trans hE6)).mono ?_
           rintro q G7 ⟨F7, rfl, hb7, hW7⟩
           simp (maxSteps := 2000000) (disch := first | omega | (simp only [AH.zN, AH.zP] <;> omega) | fail) only [amR Tryd.prog ro X, amS, seval, reduceCtorEq, ty3, ty4, ty9, ty27, ty29, ty33, ty39, ty41, ty69, ty97, ty99, ty101, ty116, ty118, ty120, e3, e36, e37, e38, e63, e64, e65]
           exact ⟨r.2.1.length - (j + 1), by omega, j + 1, by omega, rfl, by simp, F7, by simpa using hb7, hW7⟩
         ·have hjl : j = r.2.1.length := by simp at h; omega
          subst hjl
          rw [List.take_length] at hb4
          have hpz := part2_size w18 hR r.2.1.length
          rw [List.take_length] at hpz
          simp (maxSteps := 2000000) (disch := first | omega | (simp only [AH.zN, AH.zP] <;> omega) | fail) only [amR Tryd.prog ro X, amS, seval, reduceCtorEq, ty3, ty4, ty9, ty27, ty29, ty33, ty39, ty41, ty69, ty97, ty99, ty101, ty116, ty118, ty120, e3]
          refine (Bld.write2_a hXB A4 B.size A1.size (by omega) (by omega) (by omega) F4 _ ⟨#[101, 110, 100, 10]⟩ hb4 (by rw [List.append_assoc, joinS_app_size]; show _ + 4 < _; omega)).mono ?_
          rintro q A5 ⟨F5, rfl, hb5, hW5⟩
          rw [← end_eq, List.append_assoc, joinS_rec] at hb5
          simp (maxSteps := 2000000) (disch := first | omega | (simp only [AH.zN, AH.zP] <;> omega) | fail) only [amR Tryd.prog ro X, amS, seval, reduceCtorEq, ty3, ty4, ty9, ty27, ty29, ty33, ty39, ty41, ty69, ty97, ty99, ty101, ty116, ty118, ty120, e3]
          refine (Bld.len_a A5 B.size A1.size F5 _ hb5).mono ?_
          rintro q A6 ⟨rfl, rfl⟩
          have hW6 := hW4'.trans hW5
          by_cases hg : (200000 : Int) < (joinS (L ++ recL r)).size
          ·simp (maxSteps := 2000000) (disch := first | omega | (simp only [AH.zN, AH.zP] <;> omega) | fail) only [amR Tryd.prog ro X, amS, seval, reduceCtorEq, ty3, ty4, ty9, ty27, ty29, ty33, ty39, ty41, ty69, ty97, ty99, ty101, ty116, ty118, ty120, hg]
           exact ⟨by unfold storeS; rw [if_pos hk, if_pos (by omega)], hW6.toExt hEA (by omega)⟩
          ·simp (maxSteps := 2000000) (disch := first | omega | (simp only [AH.zN, AH.zP] <;> omega) | fail) only [amR Tryd.prog ro X, amS, seval, reduceCtorEq, ty3, ty4, ty9, ty27, ty29, ty33, ty39, ty41, ty69, ty97, ty99, ty101, ty116, ty118, ty120, hg, e3, e36, e37, e38]
           refine ⟨x.2.2.length - (i + 1), by omega, i + 1, by omega, rfl, by simp, F5, ?_, hW6, ?_⟩
           ·have := hb5; rw [← hL, List.append_assoc, ← hnx] at this; simpa using this
           ·have : (joinS (L ++ recL r)).size ≤ 31000000 := by omega
            rw [← hL, List.append_assoc, ← hnx] at this; simpa using this
     ·have hil : i = x.2.2.length := by simp at h; omega
      subst hil
      rw [List.take_length] at hb
      change BldV _ _ _ _ _ _ (joinS (stoL x)) at hb
      simp (maxSteps := 2000000) (disch := first | omega | (simp only [AH.zN, AH.zP] <;> omega) | fail) only [amR Tryd.prog ro X, amS, seval, reduceCtorEq, ty3, ty4, ty9, ty27, ty29, ty33, ty39, ty41, ty69, ty97, ty99, ty101, ty116, ty118, ty120, e3]
      refine (Bld.len_a A2 B.size A1.size F _ hb).mono ?_
      rintro r A3 ⟨rfl, rfl⟩
      by_cases hg : (200000 : Int) < (joinS (stoL x)).size
      ·simp (maxSteps := 2000000) (disch := first | omega | (simp only [AH.zN, AH.zP] <;> omega) | fail) only [amR Tryd.prog ro X, amS, seval, reduceCtorEq, ty3, ty4, ty9, ty27, ty29, ty33, ty39, ty41, ty69, ty97, ty99, ty101, ty116, ty118, ty120, hg]
       exact ⟨by unfold storeS; rw [if_pos hk, if_pos (by omega)], hEA'⟩
      ·simp (maxSteps := 2000000) (disch := first | omega | (simp only [AH.zN, AH.zP] <;> omega) | fail) only [amR Tryd.prog ro X, amS, seval, reduceCtorEq, ty3, ty4, ty9, ty27, ty29, ty33, ty39, ty41, ty69, ty97, ty99, ty101, ty116, ty118, ty120, e3, hg]
       have hf := hb.foot
       refine (Bld.string_a hXB A3 B.size A1.size (by omega) F _ hb (stoL_pos x) (by omega)).mono ?_
       rintro r A4 ⟨rfl, z4, o4⟩
       simp (maxSteps := 2000000) (disch := first | omega | (simp only [AH.zN, AH.zP] <;> omega) | fail) only [amR Tryd.prog ro X, amS, seval, reduceCtorEq, ty3, ty4, ty9, ty27, ty29, ty33, ty39, ty41, ty69, ty97, ty99, ty101, ty116, ty118, ty120]
       exact ⟨by unfold storeS; rw [if_pos hk, if_neg (by omega)], by have := hEA'.size; omega, fun y hy => by rw [o4 y (fun hm => by have := (hf y hm).1; omega)]; exact hEA'.get y hy⟩
 ·simp (maxSteps := 2000000) (disch := first | omega | (simp only [AH.zN, AH.zP] <;> omega) | fail) only [amR Tryd.prog ro X, amS, seval, reduceCtorEq, ty3, ty4, ty9, ty27, ty29, ty33, ty39, ty41, ty69, ty97, ty99, ty101, ty116, ty118, ty120, hk]
  exact ⟨by unfold storeS; rw [if_neg hk], (by ((repeat' (first | exact Ext.refl _ | assumption | refine Ext.trans ?_ (Ext.new _ _) | refine Ext.put ?_ ?_ _ | refine Ext.trans ?_ (by assumption))) <;> (first | omega | (simp only [AH.zN, AH.zP] <;> omega))))⟩
end Go.Proofs.YtjlbcofopapajaaDoor.Amu.Psto
