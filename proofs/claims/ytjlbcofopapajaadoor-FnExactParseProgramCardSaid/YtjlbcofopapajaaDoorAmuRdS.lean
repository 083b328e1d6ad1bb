import Derived.Test.YtjlbcofopapajaaDoorAmuTy
import Derived.Test.YtjlbcofopapajaaDoorAmRun
import Derived.Test.YtjlbcofopapajaaDoorAmPrs
import Derived.Test.YtjlbcofopapajaaDoorAmuProg
import Derived.Test.YtjlbcofopapajaaDoorAmuLine
import Derived.Test.YtjlbcofopapajaaDoorAmuUnqS
namespace Go.Proofs.YtjlbcofopapajaaDoor.Amu.RdS
open Go Go.AM Go.Proofs
set_option linter.all false
open Ty
variable {ro : Nat} {X : FuncId → List Value → AH → ARes → AH → Prop}
set_option maxRecDepth 10000
set_option maxHeartbeats 4000000 in
theorem read_a (A : AH) (hro : ro ≤ A.size) (s : ByteArray) (hs : s.size < 1073741824) :
 ACalls Tryd.prog ro X 93 [.string s] A (fun r A' => ∃ (x : TIns) (b : Bool), r = .ret (.tuple #[.agg #[.int .i64 x.1, .string x.2.1, .int .i64 x.2.2], .bool b]) ∧ Ext A A' ∧ ((b = true ∧ rdS s = some x) ∨ (b = false ∧ rdS s = none))) := by
 refine ACalls.enterQ (rs := [.cell 2 97, .tmp 3]) Tryd.func93 rfl (by kernel_rfl) rfl ?_
 simp (maxSteps := 2000000) (disch := first | omega | (simp only [AH.zN, AH.zP] <;> omega) | fail) only [amR Tryd.prog ro X, amS, seval, reduceCtorEq, ty3, ty9, ty27, ty97]
 generalize hB : A.new _ = B
 have zB : B.size = A.size + 1 := by rw [← hB]; rfl
 have hEB : Ext A B := by rw [← hB]; exact Ext.new _ _
 have gB : B.get A.size = .cells [.int .i64 0, .string .empty, .int .i64 0] 3 := by rw [← hB]; exact AH.gNs _ _
 clear hB
 refine Wp.loopC (fun k e A' => Ext B A' ∧ ∃ i : Nat, 1 ≤ i ∧ i ≤ 16 ∧ k = 16 - i ∧ e 4 = .int .i64 i ∧ e 0 = .string s ∧ e 2 = .pointer (some ⟨A.size, 0, none⟩) ∧ ∀ x, InsOk x → lineS x = s → (i : Int) ≤ x.1) 15 ?_ ?_
 ·simp (maxSteps := 2000000) (disch := first | omega | (simp only [AH.zN, AH.zP] <;> omega) | fail) only [amV, amH, amQ, amL, amN Tryd.prog, amS, seval, reduceCtorEq, ty3, ty9, ty27, ty97]
  exact ⟨Ext.refl _, 1, by omega, by omega, rfl, rfl, fun x hx _ => hx.1⟩
 ·rintro k e A' ⟨hE, i, hi, hi16, rfl, e4, e0, e2, hno⟩
  have zE := hE.size
  have gA := (hE.get A.size (by omega)).trans gB
  simp (maxSteps := 2000000) (disch := first | omega | (simp only [AH.zN, AH.zP] <;> omega) | fail) only [amR Tryd.prog ro X, amS, seval, reduceCtorEq, ty3, ty9, ty27, ty97, e4]
  refine CondB.split (fun h => ?_) (fun h => ?_)
  ·have hil : i < 16 := by simp at h; omega
   simp (maxSteps := 2000000) (disch := first | omega | (simp only [AH.zN, AH.zP] <;> omega) | fail) only [amR Tryd.prog ro X, amS, seval, reduceCtorEq, ty3, ty9, ty27, ty97, e0, e2, e4]
   refine (Prog.l2Word_a A' i).mono ?_
   rintro r A2 ⟨rfl, rfl⟩
   have hw := opWord_le (i : Int)
   have htn : (((opWord (i : Int)).size : Int) + 1).toNat = (opWord (i : Int)).size + 1 := by omega
   rcases kd_cases (i : Int) with ⟨k1, k2, k3⟩ | ⟨k1, k2, k3⟩ | ⟨k1, k2, k3⟩ | ⟨k1, k2, k3⟩
   ·have kd0 : opKd (i : Int) = 116 := UInt8.toNat_inj.1 (by show (opKd (i : Int)).toNat = 116; omega)
    by_cases hlen : ((opWord (i : Int)).size : Int) < s.size
    ·simp (maxSteps := 2000000) (disch := first | omega | (simp only [AH.zN, AH.zP] <;> omega) | fail) only [amR Tryd.prog ro X, amS, seval, reduceCtorEq, ty3, ty9, ty27, ty97, e0, e2, e4, k3, hlen]
     simp (maxSteps := 2000000) (disch := first | omega | (simp only [AH.zN, AH.zP] <;> omega) | fail) only [amR Tryd.prog ro X, amS, seval, reduceCtorEq, ty3, ty9, ty27, ty97, htn]
     generalize hC : AH.put (A2.new _) A2.size _ = C1
     have zC1 : C1.size = A2.size + 1 := by rw [← hC]; rfl
     have hEC1 : Ext A2 C1 := by rw [← hC]; exact (by ((repeat' (first | exact Ext.refl _ | assumption | refine Ext.trans ?_ (Ext.new _ _) | refine Ext.put ?_ ?_ _ | refine Ext.trans ?_ (by assumption))) <;> (first | omega | (simp only [AH.zN, AH.zP] <;> omega))))
     have gC1 : C1.get A2.size = .cells [.int .i64 i, .string ⟨#[]⟩, .int .i64 0] 3 := by rw [← hC]; exact AH.gPs _ _ _
     have gC01 := (hEC1.get A.size (by omega)).trans gA
     clear hC
     have hez : (s.extract ((opWord (i : Int)).size + 1) s.size).size ≤ s.size := by rw [ByteArray.size_extract]; omega
     refine (UnqS.unquote_a C1 (by omega) (s.extract ((opWord (i : Int)).size + 1) s.size) (by omega)).mono ?_
     rintro r C2 ⟨t, rfl, hEC2, htz, ht⟩
     have zC2 := hEC2.size
     have gC2 := (hEC2.get A2.size (by omega)).trans gC1
     have gC02 := (hEC2.get A.size (by omega)).trans gC01
     simp (maxSteps := 2000000) (disch := first | omega | (simp only [AH.zN, AH.zP] <;> omega) | fail) only [amR Tryd.prog ro X, amS, seval, reduceCtorEq, ty3, ty9, ty27, ty97, e0, e2, e4, k3, gC2]
     generalize hC : AH.put C2 A2.size _ = C
     have zC : C.size = C2.size := by rw [← hC]; rfl
     have hEC : Ext A2 C := by rw [← hC]; exact (by ((repeat' (first | exact Ext.refl _ | assumption | refine Ext.trans ?_ (Ext.new _ _) | refine Ext.put ?_ ?_ _ | refine Ext.trans ?_ (by assumption))) <;> (first | omega | (simp only [AH.zN, AH.zP] <;> omega))))
     have gC : C.get A2.size = .cells [.int .i64 i, .string t, .int .i64 0] 3 := by rw [← hC]; exact AH.gPs _ _ _
     have gC0 := (hEC.get A.size (by omega)).trans gA
     clear hC
     refine (Prog.l2InsOk_a C (by omega) ((i : Int), t, (0 : Int)) (by show t.size < _; omega)).mono ?_
     rintro r D ⟨rfl, hED⟩
     have zD := hED.size
     have gD := (hED.get A2.size (by omega)).trans gC
     have nextC : ∀ x, InsOk x → lineS x = s → ¬ (InsOk ((i : Int), t, (0 : Int)) ∧ lineS ((i : Int), t, (0 : Int)) = s) → (i : Int) + 1 ≤ x.1 := fun x hx hl hn => by
      have := hno x hx hl
      rcases Int.lt_or_eq_of_le this with h5 | h5
      ·omega
      ·have hxe : x = ((i : Int), t, (0 : Int)) := (ins_text hx (by rw [← h5]; exact kd0)).trans (by rw [← h5, ht x.2.1 (by have e1 := extract_tail (hl.symm.trans (line_text (by rw [← h5]; exact kd0))); rwa [← h5] at e1)])
       rw [hxe] at hx hl
       exact absurd ⟨hx, hl⟩ hn
     by_cases hok : InsOk ((i : Int), t, (0 : Int))
     ·obtain ⟨v1, v2, v3, v4, v5⟩ := insB3 hok
      simp (maxSteps := 2000000) (disch := first | omega | (simp only [AH.zN, AH.zP] <;> omega) | fail) only [amR Tryd.prog ro X, amS, seval, reduceCtorEq, ty3, ty9, ty27, ty97, e0, e2, e4, gD, hok]
      refine (Line.l2Line_a D (by omega) ((i : Int), t, (0 : Int)) v1 v2 v3 v4 v5).mono ?_
      rintro r G ⟨rfl, hEG⟩
      have zG := hEG.size
      have gG := (hEG.get A2.size (by omega)).trans gD
      have gR := ((hEG.get A.size (by omega)).trans (hED.get A.size (by omega))).trans gC0
      by_cases hl : lineS ((i : Int), t, (0 : Int)) = s
      ·simp (maxSteps := 2000000) (disch := first | omega | (simp only [AH.zN, AH.zP] <;> omega) | fail) only [amR Tryd.prog ro X, amS, seval, reduceCtorEq, ty3, ty9, ty27, ty97, e0, e2, e4, gG, gR, hl]
       exact ⟨((i : Int), t, (0 : Int)), true, rfl, (by ((repeat' (first | exact Ext.refl _ | assumption | refine Ext.trans ?_ (Ext.new _ _) | refine Ext.put ?_ ?_ _ | refine Ext.trans ?_ (by assumption))) <;> (first | omega | (simp only [AH.zN, AH.zP] <;> omega)))), .inl ⟨rfl, rdS_some hok hl⟩⟩
      ·simp (maxSteps := 2000000) (disch := first | omega | (simp only [AH.zN, AH.zP] <;> omega) | fail) only [amR Tryd.prog ro X, amS, seval, reduceCtorEq, ty3, ty9, ty27, ty97, e0, e2, e4, gG, gR, hl]
       exact ⟨16 - (i + 1), by omega, (by ((repeat' (first | exact Ext.refl _ | assumption | refine Ext.trans ?_ (Ext.new _ _) | refine Ext.put ?_ ?_ _ | refine Ext.trans ?_ (by assumption))) <;> (first | omega | (simp only [AH.zN, AH.zP] <;> omega)))), i + 1, by omega, by omega, rfl, by simp, fun x hx hl2 => by have := nextC x hx hl2 (fun h => hl h.2); simpa using this⟩
     ·simp (maxSteps := 2000000) (disch := first | omega | (simp only [AH.zN, AH.zP] <;> omega) | fail) only [amR Tryd.prog ro X, amS, seval, reduceCtorEq, ty3, ty9, ty27, ty97, e0, e2, e4, gD, hok]
      exact ⟨16 - (i + 1), by omega, (by ((repeat' (first | exact Ext.refl _ | assumption | refine Ext.trans ?_ (Ext.new _ _) | refine Ext.put ?_ ?_ _ | refine Ext.trans ?_ (by assumption))) <;> (first | omega | (simp only [AH.zN, AH.zP] <;> omega)))), i + 1, by omega, by omega, rfl, by simp, fun x hx hl2 => by have := nextC x hx hl2 (fun h => hok h.1); simpa using this⟩
    ·simp (maxSteps := 2000000) (disch := first | omega | (simp only [AH.zN, AH.zP] <;> omega) | fail) only [amR Tryd.prog ro X, amS, seval, reduceCtorEq, ty3, ty9, ty27, ty97, e0, e2, e4, k3, hlen]
     generalize hC : AH.put (A2.new _) A2.size _ = C
     have zC : C.size = A2.size + 1 := by rw [← hC]; rfl
     have hEC : Ext A2 C := by rw [← hC]; exact (by ((repeat' (first | exact Ext.refl _ | assumption | refine Ext.trans ?_ (Ext.new _ _) | refine Ext.put ?_ ?_ _ | refine Ext.trans ?_ (by assumption))) <;> (first | omega | (simp only [AH.zN, AH.zP] <;> omega))))
     have gC : C.get A2.size = .cells [.int .i64 i, .string ⟨#[]⟩, .int .i64 0] 3 := by rw [← hC]; exact AH.gPs _ _ _
     have gC0 := (hEC.get A.size (by omega)).trans gA
     clear hC
     refine (Prog.l2InsOk_a C (by omega) ((i : Int), ⟨#[]⟩, (0 : Int)) (by show 0 < _; omega)).mono ?_
     rintro r D ⟨rfl, hED⟩
     have zD := hED.size
     have gD := (hED.get A2.size (by omega)).trans gC
     have nextC : ∀ x, InsOk x → lineS x = s → ¬ (InsOk ((i : Int), ⟨#[]⟩, (0 : Int)) ∧ lineS ((i : Int), ⟨#[]⟩, (0 : Int)) = s) → (i : Int) + 1 ≤ x.1 := fun x hx hl hn => by
      have := hno x hx hl
      rcases Int.lt_or_eq_of_le this with h5 | h5
      ·omega
      ·have hxe : x = ((i : Int), ⟨#[]⟩, (0 : Int)) := (by exfalso; have := tail_size2 (hl.symm.trans (line_text (by rw [← h5]; exact kd0))); rw [← h5] at this; omega)
       rw [hxe] at hx hl
       exact absurd ⟨hx, hl⟩ hn
     by_cases hok : InsOk ((i : Int), ⟨#[]⟩, (0 : Int))
     ·obtain ⟨v1, v2, v3, v4, v5⟩ := insB3 hok
      simp (maxSteps := 2000000) (disch := first | omega | (simp only [AH.zN, AH.zP] <;> omega) | fail) only [amR Tryd.prog ro X, amS, seval, reduceCtorEq, ty3, ty9, ty27, ty97, e0, e2, e4, gD, hok]
      refine (Line.l2Line_a D (by omega) ((i : Int), ⟨#[]⟩, (0 : Int)) v1 v2 v3 v4 v5).mono ?_
      rintro r G ⟨rfl, hEG⟩
      have zG := hEG.size
      have gG := (hEG.get A2.size (by omega)).trans gD
      have gR := ((hEG.get A.size (by omega)).trans (hED.get A.size (by omega))).trans gC0
      by_cases hl : lineS ((i : Int), ⟨#[]⟩, (0 : Int)) = s
      ·simp (maxSteps := 2000000) (disch := first | omega | (simp only [AH.zN, AH.zP] <;> omega) | fail) only [amR Tryd.prog ro X, amS, seval, reduceCtorEq, ty3, ty9, ty27, ty97, e0, e2, e4, gG, gR, hl]
       exact ⟨((i : Int), ⟨#[]⟩, (0 : Int)), true, rfl, (by ((repeat' (first | exact Ext.refl _ | assumption | refine Ext.trans ?_ (Ext.new _ _) | refine Ext.put ?_ ?_ _ | refine Ext.trans ?_ (by assumption))) <;> (first | omega | (simp only [AH.zN, AH.zP] <;> omega)))), .inl ⟨rfl, rdS_some hok hl⟩⟩
      ·simp (maxSteps := 2000000) (disch := first | omega | (simp only [AH.zN, AH.zP] <;> omega) | fail) only [amR Tryd.prog ro X, amS, seval, reduceCtorEq, ty3, ty9, ty27, ty97, e0, e2, e4, gG, gR, hl]
       exact ⟨16 - (i + 1), by omega, (by ((repeat' (first | exact Ext.refl _ | assumption | refine Ext.trans ?_ (Ext.new _ _) | refine Ext.put ?_ ?_ _ | refine Ext.trans ?_ (by assumption))) <;> (first | omega | (simp only [AH.zN, AH.zP] <;> omega)))), i + 1, by omega, by omega, rfl, by simp, fun x hx hl2 => by have := nextC x hx hl2 (fun h => hl h.2); simpa using this⟩
     ·simp (maxSteps := 2000000) (disch := first | omega | (simp only [AH.zN, AH.zP] <;> omega) | fail) only [amR Tryd.prog ro X, amS, seval, reduceCtorEq, ty3, ty9, ty27, ty97, e0, e2, e4, gD, hok]
      exact ⟨16 - (i + 1), by omega, (by ((repeat' (first | exact Ext.refl _ | assumption | refine Ext.trans ?_ (Ext.new _ _) | refine Ext.put ?_ ?_ _ | refine Ext.trans ?_ (by assumption))) <;> (first | omega | (simp only [AH.zN, AH.zP] <;> omega)))), i + 1, by omega, by omega, rfl, by simp, fun x hx hl2 => by have := nextC x hx hl2 (fun h => hok h.1); simpa using this⟩
   ·have kd0 : opKd (i : Int) = 110 := UInt8.toNat_inj.1 (by show (opKd (i : Int)).toNat = 110; omega)
    by_cases hlen : ((opWord (i : Int)).size : Int) < s.size
    ·simp (maxSteps := 2000000) (disch := first | omega | (simp only [AH.zN, AH.zP] <;> omega) | fail) only [amR Tryd.prog ro X, amS, seval, reduceCtorEq, ty3, ty9, ty27, ty97, e0, e2, e4, k3, hlen]
     simp (maxSteps := 2000000) (disch := first | omega | (simp only [AH.zN, AH.zP] <;> omega) | fail) only [amR Tryd.prog ro X, amS, seval, reduceCtorEq, ty3, ty9, ty27, ty97, htn]
     generalize hC : AH.put (A2.new _) A2.size _ = C1
     have zC1 : C1.size = A2.size + 1 := by rw [← hC]; rfl
     have hEC1 : Ext A2 C1 := by rw [← hC]; exact (by ((repeat' (first | exact Ext.refl _ | assumption | refine Ext.trans ?_ (Ext.new _ _) | refine Ext.put ?_ ?_ _ | refine Ext.trans ?_ (by assumption))) <;> (first | omega | (simp only [AH.zN, AH.zP] <;> omega))))
     have gC1 : C1.get A2.size = .cells [.int .i64 i, .string ⟨#[]⟩, .int .i64 0] 3 := by rw [← hC]; exact AH.gPs _ _ _
     have gC01 := (hEC1.get A.size (by omega)).trans gA
     clear hC
     have hez : (s.extract ((opWord (i : Int)).size + 1) s.size).size ≤ s.size := by rw [ByteArray.size_extract]; omega
     refine (UnqS.number_a C1 (s.extract ((opWord (i : Int)).size + 1) s.size) (by omega)).mono ?_
     rintro r C2 ⟨n, rfl, rfl, hnv⟩
     simp (maxSteps := 2000000) (disch := first | omega | (simp only [AH.zN, AH.zP] <;> omega) | fail) only [amR Tryd.prog ro X, amS, seval, reduceCtorEq, ty3, ty9, ty27, ty97, e0, e2, e4, k3, gC1]
     generalize hC : AH.put C2 A2.size _ = C
     have zC : C.size = C2.size := by rw [← hC]; rfl
     have hEC : Ext A2 C := by rw [← hC]; exact (by ((repeat' (first | exact Ext.refl _ | assumption | refine Ext.trans ?_ (Ext.new _ _) | refine Ext.put ?_ ?_ _ | refine Ext.trans ?_ (by assumption))) <;> (first | omega | (simp only [AH.zN, AH.zP] <;> omega))))
     have gC : C.get A2.size = .cells [.int .i64 i, .string ⟨#[]⟩, .int .i64 n] 3 := by rw [← hC]; exact AH.gPs _ _ _
     have gC0 := (hEC.get A.size (by omega)).trans gA
     clear hC
     refine (Prog.l2InsOk_a C (by omega) ((i : Int), ⟨#[]⟩, (n : Int)) (by show 0 < _; omega)).mono ?_
     rintro r D ⟨rfl, hED⟩
     have zD := hED.size
     have gD := (hED.get A2.size (by omega)).trans gC
     have nextC : ∀ x, InsOk x → lineS x = s → ¬ (InsOk ((i : Int), ⟨#[]⟩, (n : Int)) ∧ lineS ((i : Int), ⟨#[]⟩, (n : Int)) = s) → (i : Int) + 1 ≤ x.1 := fun x hx hl hn => by
      have := hno x hx hl
      rcases Int.lt_or_eq_of_le this with h5 | h5
      ·omega
      ·have hxe : x = ((i : Int), ⟨#[]⟩, (n : Int)) := (ins_numk hx (by rw [← h5]; exact .inl kd0)).trans (by have i5 := ins_num hx; rw [← h5, hnv x.2.2.toNat (by omega) (by have e1 := extract_tail (hl.symm.trans (line_num (by rw [← h5]; exact .inl kd0))); rwa [← h5] at e1)])
       rw [hxe] at hx hl
       exact absurd ⟨hx, hl⟩ hn
     by_cases hok : InsOk ((i : Int), ⟨#[]⟩, (n : Int))
     ·obtain ⟨v1, v2, v3, v4, v5⟩ := insB3 hok
      simp (maxSteps := 2000000) (disch := first | omega | (simp only [AH.zN, AH.zP] <;> omega) | fail) only [amR Tryd.prog ro X, amS, seval, reduceCtorEq, ty3, ty9, ty27, ty97, e0, e2, e4, gD, hok]
      refine (Line.l2Line_a D (by omega) ((i : Int), ⟨#[]⟩, (n : Int)) v1 v2 v3 v4 v5).mono ?_
      rintro r G ⟨rfl, hEG⟩
      have zG := hEG.size
      have gG := (hEG.get A2.size (by omega)).trans gD
      have gR := ((hEG.get A.size (by omega)).trans (hED.get A.size (by omega))).trans gC0
      by_cases hl : lineS ((i : Int), ⟨#[]⟩, (n : Int)) = s
      ·simp (maxSteps := 2000000) (disch := first | omega | (simp only [AH.zN, AH.zP] <;> omega) | fail) only [amR Tryd.prog ro X, amS, seval, reduceCtorEq, ty3, ty9, ty27, ty97, e0, e2, e4, gG, gR, hl]
       exact ⟨((i : Int), ⟨#[]⟩, (n : Int)), true, rfl, (by ((repeat' (first | exact Ext.refl _ | assumption | refine Ext.trans ?_ (Ext.new _ _) | refine Ext.put ?_ ?_ _ | refine Ext.trans ?_ (by assumption))) <;> (first | omega | (simp only [AH.zN, AH.zP] <;> omega)))), .inl ⟨rfl, rdS_some hok hl⟩⟩
      ·simp (maxSteps := 2000000) (disch := first | omega | (simp only [AH.zN, AH.zP] <;> omega) | fail) only [amR Tryd.prog ro X, amS, seval, reduceCtorEq, ty3, ty9, ty27, ty97, e0, e2, e4, gG, gR, hl]
       exact ⟨16 - (i + 1), by omega, (by ((repeat' (first | exact Ext.refl _ | assumption | refine Ext.trans ?_ (Ext.new _ _) | refine Ext.put ?_ ?_ _ | refine Ext.trans ?_ (by assumption))) <;> (first | omega | (simp only [AH.zN, AH.zP] <;> omega)))), i + 1, by omega, by omega, rfl, by simp, fun x hx hl2 => by have := nextC x hx hl2 (fun h => hl h.2); simpa using this⟩
     ·simp (maxSteps := 2000000) (disch := first | omega | (simp only [AH.zN, AH.zP] <;> omega) | fail) only [amR Tryd.prog ro X, amS, seval, reduceCtorEq, ty3, ty9, ty27, ty97, e0, e2, e4, gD, hok]
      exact ⟨16 - (i + 1), by omega, (by ((repeat' (first | exact Ext.refl _ | assumption | refine Ext.trans ?_ (Ext.new _ _) | refine Ext.put ?_ ?_ _ | refine Ext.trans ?_ (by assumption))) <;> (first | omega | (simp only [AH.zN, AH.zP] <;> omega)))), i + 1, by omega, by omega, rfl, by simp, fun x hx hl2 => by have := nextC x hx hl2 (fun h => hok h.1); simpa using this⟩
    ·simp (maxSteps := 2000000) (disch := first | omega | (simp only [AH.zN, AH.zP] <;> omega) | fail) only [amR Tryd.prog ro X, amS, seval, reduceCtorEq, ty3, ty9, ty27, ty97, e0, e2, e4, k3, hlen]
     generalize hC : AH.put (A2.new _) A2.size _ = C
     have zC : C.size = A2.size + 1 := by rw [← hC]; rfl
     have hEC : Ext A2 C := by rw [← hC]; exact (by ((repeat' (first | exact Ext.refl _ | assumption | refine Ext.trans ?_ (Ext.new _ _) | refine Ext.put ?_ ?_ _ | refine Ext.trans ?_ (by assumption))) <;> (first | omega | (simp only [AH.zN, AH.zP] <;> omega))))
     have gC : C.get A2.size = .cells [.int .i64 i, .string ⟨#[]⟩, .int .i64 0] 3 := by rw [← hC]; exact AH.gPs _ _ _
     have gC0 := (hEC.get A.size (by omega)).trans gA
     clear hC
     refine (Prog.l2InsOk_a C (by omega) ((i : Int), ⟨#[]⟩, (0 : Int)) (by show 0 < _; omega)).mono ?_
     rintro r D ⟨rfl, hED⟩
     have zD := hED.size
     have gD := (hED.get A2.size (by omega)).trans gC
     have nextC : ∀ x, InsOk x → lineS x = s → ¬ (InsOk ((i : Int), ⟨#[]⟩, (0 : Int)) ∧ lineS ((i : Int), ⟨#[]⟩, (0 : Int)) = s) → (i : Int) + 1 ≤ x.1 := fun x hx hl hn => by
      have := hno x hx hl
      rcases Int.lt_or_eq_of_le this with h5 | h5
      ·omega
      ·have hxe : x = ((i : Int), ⟨#[]⟩, (0 : Int)) := (by exfalso; have := tail_size2 (hl.symm.trans (line_num (by rw [← h5]; exact .inl kd0))); rw [← h5] at this; omega)
       rw [hxe] at hx hl
       exact absurd ⟨hx, hl⟩ hn
     by_cases hok : InsOk ((i : Int), ⟨#[]⟩, (0 : Int))
     ·obtain ⟨v1, v2, v3, v4, v5⟩ := insB3 hok
      simp (maxSteps := 2000000) (disch := first | omega | (simp only [AH.zN, AH.zP] <;> omega) | fail) only [amR Tryd.prog ro X, amS, seval, reduceCtorEq, ty3, ty9, ty27, ty97, e0, e2, e4, gD, hok]
      refine (Line.l2Line_a D (by omega) ((i : Int), ⟨#[]⟩, (0 : Int)) v1 v2 v3 v4 v5).mono ?_
      rintro r G ⟨rfl, hEG⟩
      have zG := hEG.size
      have gG := (hEG.get A2.size (by omega)).trans gD
      have gR := ((hEG.get A.size (by omega)).trans (hED.get A.size (by omega))).trans gC0
      by_cases hl : lineS ((i : Int), ⟨#[]⟩, (0 : Int)) = s
      ·simp (maxSteps := 2000000) (disch := first | omega | (simp only [AH.zN, AH.zP] <;> omega) | fail) only [amR Tryd.prog ro X, amS, seval, reduceCtorEq, ty3, ty9, ty27, ty97, e0, e2, e4, gG, gR, hl]
       exact ⟨((i : Int), ⟨#[]⟩, (0 : Int)), true, rfl, (by ((repeat' (first | exact Ext.refl _ | assumption | refine Ext.trans ?_ (Ext.new _ _) | refine Ext.put ?_ ?_ _ | refine Ext.trans ?_ (by assumption))) <;> (first | omega | (simp only [AH.zN, AH.zP] <;> omega)))), .inl ⟨rfl, rdS_some hok hl⟩⟩
      ·simp (maxSteps := 2000000) (disch := first | omega | (simp only [AH.zN, AH.zP] <;> omega) | fail) only [amR Tryd.prog ro X, amS, seval, reduceCtorEq, ty3, ty9, ty27, ty97, e0, e2, e4, gG, gR, hl]
       exact ⟨16 - (i + 1), by omega, (by ((repeat' (first | exact Ext.refl _ | assumption | refine Ext.trans ?_ (Ext.new _ _) | refine Ext.put ?_ ?_ _ | refine Ext.trans ?_ (by assumption))) <;> (first | omega | (simp only [AH.zN, AH.zP] <;> omega)))), i + 1, by omega, by omega, rfl, by simp, fun x hx hl2 => by have := nextC x hx hl2 (fun h => hl h.2); simpa using this⟩
     ·simp (maxSteps := 2000000) (disch := first | omega | (simp only [AH.zN, AH.zP] <;> omega) | fail) only [amR Tryd.prog ro X, amS, seval, reduceCtorEq, ty3, ty9, ty27, ty97, e0, e2, e4, gD, hok]
      exact ⟨16 - (i + 1), by omega, (by ((repeat' (first | exact Ext.refl _ | assumption | refine Ext.trans ?_ (Ext.new _ _) | refine Ext.put ?_ ?_ _ | refine Ext.trans ?_ (by assumption))) <;> (first | omega | (simp only [AH.zN, AH.zP] <;> omega)))), i + 1, by omega, by omega, rfl, by simp, fun x hx hl2 => by have := nextC x hx hl2 (fun h => hok h.1); simpa using this⟩
   ·have kd0 : opKd (i : Int) = 106 := UInt8.toNat_inj.1 (by show (opKd (i : Int)).toNat = 106; omega)
    by_cases hlen : ((opWord (i : Int)).size : Int) < s.size
    ·simp (maxSteps := 2000000) (disch := first | omega | (simp only [AH.zN, AH.zP] <;> omega) | fail) only [amR Tryd.prog ro X, amS, seval, reduceCtorEq, ty3, ty9, ty27, ty97, e0, e2, e4, k3, hlen]
     simp (maxSteps := 2000000) (disch := first | omega | (simp only [AH.zN, AH.zP] <;> omega) | fail) only [amR Tryd.prog ro X, amS, seval, reduceCtorEq, ty3, ty9, ty27, ty97, htn]
     generalize hC : AH.put (A2.new _) A2.size _ = C1
     have zC1 : C1.size = A2.size + 1 := by rw [← hC]; rfl
     have hEC1 : Ext A2 C1 := by rw [← hC]; exact (by ((repeat' (first | exact Ext.refl _ | assumption | refine Ext.trans ?_ (Ext.new _ _) | refine Ext.put ?_ ?_ _ | refine Ext.trans ?_ (by assumption))) <;> (first | omega | (simp only [AH.zN, AH.zP] <;> omega))))
     have gC1 : C1.get A2.size = .cells [.int .i64 i, .string ⟨#[]⟩, .int .i64 0] 3 := by rw [← hC]; exact AH.gPs _ _ _
     have gC01 := (hEC1.get A.size (by omega)).trans gA
     clear hC
     have hez : (s.extract ((opWord (i : Int)).size + 1) s.size).size ≤ s.size := by rw [ByteArray.size_extract]; omega
     refine (UnqS.number_a C1 (s.extract ((opWord (i : Int)).size + 1) s.size) (by omega)).mono ?_
     rintro r C2 ⟨n, rfl, rfl, hnv⟩
     simp (maxSteps := 2000000) (disch := first | omega | (simp only [AH.zN, AH.zP] <;> omega) | fail) only [amR Tryd.prog ro X, amS, seval, reduceCtorEq, ty3, ty9, ty27, ty97, e0, e2, e4, k3, gC1]
     generalize hC : AH.put C2 A2.size _ = C
     have zC : C.size = C2.size := by rw [← hC]; rfl
     have hEC : Ext A2 C := by rw [← hC]; exact (by ((repeat' (first | exact Ext.refl _ | assumption | refine Ext.trans ?_ (Ext.new _ _) | refine Ext.put ?_ ?_ _ | refine Ext.trans ?_ (by assumption))) <;> (first | omega | (simp only [AH.zN, AH.zP] <;> omega))))
     have gC : C.get A2.size = .cells [.int .i64 i, .string ⟨#[]⟩, .int .i64 n] 3 := by rw [← hC]; exact AH.gPs _ _ _
     have gC0 := (hEC.get A.size (by omega)).trans gA
     clear hC
     refine (Prog.l2InsOk_a C (by omega) ((i : Int), ⟨#[]⟩, (n : Int)) (by show 0 < _; omega)).mono ?_
     rintro r D ⟨rfl, hED⟩
     have zD := hED.size
     have gD := (hED.get A2.size (by omega)).trans gC
     have nextC : ∀ x, InsOk x → lineS x = s → ¬ (InsOk ((i : Int), ⟨#[]⟩, (n : Int)) ∧ lineS ((i : Int), ⟨#[]⟩, (n : Int)) = s) → (i : Int) + 1 ≤ x.1 := fun x hx hl hn => by
      have := hno x hx hl
      rcases Int.lt_or_eq_of_le this with h5 | h5
      ·omega
      ·have hxe : x = ((i : Int), ⟨#[]⟩, (n : Int)) := (ins_numk hx (by rw [← h5]; exact .inr kd0)).trans (by have i5 := ins_num hx; rw [← h5, hnv x.2.2.toNat (by omega) (by have e1 := extract_tail (hl.symm.trans (line_num (by rw [← h5]; exact .inr kd0))); rwa [← h5] at e1)])
       rw [hxe] at hx hl
       exact absurd ⟨hx, hl⟩ hn
     by_cases hok : InsOk ((i : Int), ⟨#[]⟩, (n : Int))
     ·obtain ⟨v1, v2, v3, v4, v5⟩ := insB3 hok
      simp (maxSteps := 2000000) (disch := first | omega | (simp only [AH.zN, AH.zP] <;> omega) | fail) only [amR Tryd.prog ro X, amS, seval, reduceCtorEq, ty3, ty9, ty27, ty97, e0, e2, e4, gD, hok]
      refine (Line.l2Line_a D (by omega) ((i : Int), ⟨#[]⟩, (n : Int)) v1 v2 v3 v4 v5).mono ?_
      rintro r G ⟨rfl, hEG⟩
      have zG := hEG.size
      have gG := (hEG.get A2.size (by omega)).trans gD
      have gR := ((hEG.get A.size (by omega)).trans (hED.get A.size (by omega))).trans gC0
      by_cases hl : lineS ((i : Int), ⟨#[]⟩, (n : Int)) = s
      ·simp (maxSteps := 2000000) (disch := first | omega | (simp only [AH.zN, AH.zP] <;> omega) | fail) only [amR Tryd.prog ro X, amS, seval, reduceCtorEq, ty3, ty9, ty27, ty97, e0, e2, e4, gG, gR, hl]
       exact ⟨((i : Int), ⟨#[]⟩, (n : Int)), true, rfl, (by ((repeat' (first | exact Ext.refl _ | assumption | refine Ext.trans ?_ (Ext.new _ _) | refine Ext.put ?_ ?_ _ | refine Ext.trans ?_ (by assumption))) <;> (first | omega | (simp only [AH.zN, AH.zP] <;> omega)))), .inl ⟨rfl, rdS_some hok hl⟩⟩
      ·simp (maxSteps := 2000000) (disch := first | omega | (simp only [AH.zN, AH.zP] <;> omega) | fail) only [amR Tryd.prog ro X, amS, seval, reduceCtorEq, ty3, ty9, ty27, ty97, e0, e2, e4, gG, gR, hl]
       exact ⟨16 - (i + 1), by omega, (by ((repeat' (first | exact Ext.refl _ | assumption | refine Ext.trans ?_ (Ext.new _ _) | refine Ext.put ?_ ?_ _ | refine Ext.trans ?_ (by assumption))) <;> (first | omega | (simp only [AH.zN, AH.zP] <;> omega)))), i + 1, by omega, by omega, rfl, by simp, fun x hx hl2 => by have := nextC x hx hl2 (fun h => hl h.2); simpa using this⟩
     ·simp (maxSteps := 2000000) (disch := first | omega | (simp only [AH.zN, AH.zP] <;> omega) | fail) only [amR Tryd.prog ro X, amS, seval, reduceCtorEq, ty3, ty9, ty27, ty97, e0, e2, e4, gD, hok]
      exact ⟨16 - (i + 1), by omega, (by ((repeat' (first | exact Ext.refl _ | assumption | refine Ext.trans ?_ (Ext.new _ _) | refine Ext.put ?_ ?_ _ | refine Ext.trans ?_ (by assumption))) <;> (first | omega | (simp only [AH.zN, AH.zP] <;> omega)))), i + 1, by omega, by omega, rfl, by simp, fun x hx hl2 => by have := nextC x hx hl2 (fun h => hok h.1); simpa using this⟩
    ·simp (maxSteps := 2000000) (disch := first | omega | (simp only [AH.zN, AH.zP] <;> omega) | fail) only [amR Tryd.prog ro X, amS, seval, reduceCtorEq, ty3, ty9, ty27, ty97, e0, e2, e4, k3, hlen]
     generalize hC : AH.put (A2.new _) A2.size _ = C
     have zC : C.size = A2.size + 1 := by rw [← hC]; rfl
     have hEC : Ext A2 C := by rw [← hC]; exact (by ((repeat' (first | exact Ext.refl _ | assumption | refine Ext.trans ?_ (Ext.new _ _) | refine Ext.put ?_ ?_ _ | refine Ext.trans ?_ (by assumption))) <;> (first | omega | (simp only [AH.zN, AH.zP] <;> omega))))
     have gC : C.get A2.size = .cells [.int .i64 i, .string ⟨#[]⟩, .int .i64 0] 3 := by rw [← hC]; exact AH.gPs _ _ _
     have gC0 := (hEC.get A.size (by omega)).trans gA
     clear hC
     refine (Prog.l2InsOk_a C (by omega) ((i : Int), ⟨#[]⟩, (0 : Int)) (by show 0 < _; omega)).mono ?_
     rintro r D ⟨rfl, hED⟩
     have zD := hED.size
     have gD := (hED.get A2.size (by omega)).trans gC
     have nextC : ∀ x, InsOk x → lineS x = s → ¬ (InsOk ((i : Int), ⟨#[]⟩, (0 : Int)) ∧ lineS ((i : Int), ⟨#[]⟩, (0 : Int)) = s) → (i : Int) + 1 ≤ x.1 := fun x hx hl hn => by
      have := hno x hx hl
      rcases Int.lt_or_eq_of_le this with h5 | h5
      ·omega
      ·have hxe : x = ((i : Int), ⟨#[]⟩, (0 : Int)) := (by exfalso; have := tail_size2 (hl.symm.trans (line_num (by rw [← h5]; exact .inr kd0))); rw [← h5] at this; omega)
       rw [hxe] at hx hl
       exact absurd ⟨hx, hl⟩ hn
     by_cases hok : InsOk ((i : Int), ⟨#[]⟩, (0 : Int))
     ·obtain ⟨v1, v2, v3, v4, v5⟩ := insB3 hok
      simp (maxSteps := 2000000) (disch := first | omega | (simp only [AH.zN, AH.zP] <;> omega) | fail) only [amR Tryd.prog ro X, amS, seval, reduceCtorEq, ty3, ty9, ty27, ty97, e0, e2, e4, gD, hok]
      refine (Line.l2Line_a D (by omega) ((i : Int), ⟨#[]⟩, (0 : Int)) v1 v2 v3 v4 v5).mono ?_
      rintro r G ⟨rfl, hEG⟩
      have zG := hEG.size
      have gG := (hEG.get A2.size (by omega)).trans gD
      have gR := ((hEG.get A.size (by omega)).trans (hED.get A.size (by omega))).trans gC0
      by_cases hl : lineS ((i : Int), ⟨#[]⟩, (0 : Int)) = s
      ·simp (maxSteps := 2000000) (disch := first | omega | (simp only [AH.zN, AH.zP] <;> omega) | fail) only [amR Tryd.prog ro X, amS, seval, reduceCtorEq, ty3, ty9, ty27, ty97, e0, e2, e4, gG, gR, hl]
       exact ⟨((i : Int), ⟨#[]⟩, (0 : Int)), true, rfl, (by ((repeat' (first | exact Ext.refl _ | assumption | refine Ext.trans ?_ (Ext.new _ _) | refine Ext.put ?_ ?_ _ | refine Ext.trans ?_ (by assumption))) <;> (first | omega | (simp only [AH.zN, AH.zP] <;> omega)))), .inl ⟨rfl, rdS_some hok hl⟩⟩
      ·simp (maxSteps := 2000000) (disch := first | omega | (simp only [AH.zN, AH.zP] <;> omega) | fail) only [amR Tryd.prog ro X, amS, seval, reduceCtorEq, ty3, ty9, ty27, ty97, e0, e2, e4, gG, gR, hl]
       exact ⟨16 - (i + 1), by omega, (by ((repeat' (first | exact Ext.refl _ | assumption | refine Ext.trans ?_ (Ext.new _ _) | refine Ext.put ?_ ?_ _ | refine Ext.trans ?_ (by assumption))) <;> (first | omega | (simp only [AH.zN, AH.zP] <;> omega)))), i + 1, by omega, by omega, rfl, by simp, fun x hx hl2 => by have := nextC x hx hl2 (fun h => hl h.2); simpa using this⟩
     ·simp (maxSteps := 2000000) (disch := first | omega | (simp only [AH.zN, AH.zP] <;> omega) | fail) only [amR Tryd.prog ro X, amS, seval, reduceCtorEq, ty3, ty9, ty27, ty97, e0, e2, e4, gD, hok]
      exact ⟨16 - (i + 1), by omega, (by ((repeat' (first | exact Ext.refl _ | assumption | refine Ext.trans ?_ (Ext.new _ _) | refine Ext.put ?_ ?_ _ | refine Ext.trans ?_ (by assumption))) <;> (first | omega | (simp only [AH.zN, AH.zP] <;> omega)))), i + 1, by omega, by omega, rfl, by simp, fun x hx hl2 => by have := nextC x hx hl2 (fun h => hok h.1); simpa using this⟩
   ·have kd0 : opKd (i : Int) = 0 := UInt8.toNat_inj.1 (by show (opKd (i : Int)).toNat = 0; omega)
    simp (maxSteps := 2000000) (disch := first | omega | (simp only [AH.zN, AH.zP] <;> omega) | fail) only [amR Tryd.prog ro X, amS, seval, reduceCtorEq, ty3, ty9, ty27, ty97, e0, e2, e4, k3]
    generalize hC : AH.put (A2.new _) A2.size _ = C
    have zC : C.size = A2.size + 1 := by rw [← hC]; rfl
    have hEC : Ext A2 C := by rw [← hC]; exact (by ((repeat' (first | exact Ext.refl _ | assumption | refine Ext.trans ?_ (Ext.new _ _) | refine Ext.put ?_ ?_ _ | refine Ext.trans ?_ (by assumption))) <;> (first | omega | (simp only [AH.zN, AH.zP] <;> omega))))
    have gC : C.get A2.size = .cells [.int .i64 i, .string ⟨#[]⟩, .int .i64 0] 3 := by rw [← hC]; exact AH.gPs _ _ _
    have gC0 := (hEC.get A.size (by omega)).trans gA
    clear hC
    refine (Prog.l2InsOk_a C (by omega) ((i : Int), ⟨#[]⟩, (0 : Int)) (by show 0 < _; omega)).mono ?_
    rintro r D ⟨rfl, hED⟩
    have zD := hED.size
    have gD := (hED.get A2.size (by omega)).trans gC
    have nextC : ∀ x, InsOk x → lineS x = s → ¬ (InsOk ((i : Int), ⟨#[]⟩, (0 : Int)) ∧ lineS ((i : Int), ⟨#[]⟩, (0 : Int)) = s) → (i : Int) + 1 ≤ x.1 := fun x hx hl hn => by
     have := hno x hx hl
     rcases Int.lt_or_eq_of_le this with h5 | h5
     ·omega
     ·have hxe : x = ((i : Int), ⟨#[]⟩, (0 : Int)) := (ins_kind0 hx (by rw [← h5]; exact kd0)).trans (by rw [← h5])
      rw [hxe] at hx hl
      exact absurd ⟨hx, hl⟩ hn
    by_cases hok : InsOk ((i : Int), ⟨#[]⟩, (0 : Int))
    ·obtain ⟨v1, v2, v3, v4, v5⟩ := insB3 hok
     simp (maxSteps := 2000000) (disch := first | omega | (simp only [AH.zN, AH.zP] <;> omega) | fail) only [amR Tryd.prog ro X, amS, seval, reduceCtorEq, ty3, ty9, ty27, ty97, e0, e2, e4, gD, hok]
     refine (Line.l2Line_a D (by omega) ((i : Int), ⟨#[]⟩, (0 : Int)) v1 v2 v3 v4 v5).mono ?_
     rintro r G ⟨rfl, hEG⟩
     have zG := hEG.size
     have gG := (hEG.get A2.size (by omega)).trans gD
     have gR := ((hEG.get A.size (by omega)).trans (hED.get A.size (by omega))).trans gC0
     by_cases hl : lineS ((i : Int), ⟨#[]⟩, (0 : Int)) = s
     ·simp (maxSteps := 2000000) (disch := first | omega | (simp only [AH.zN, AH.zP] <;> omega) | fail) only [amR Tryd.prog ro X, amS, seval, reduceCtorEq, ty3, ty9, ty27, ty97, e0, e2, e4, gG, gR, hl]
      exact ⟨((i : Int), ⟨#[]⟩, (0 : Int)), true, rfl, (by ((repeat' (first | exact Ext.refl _ | assumption | refine Ext.trans ?_ (Ext.new _ _) | refine Ext.put ?_ ?_ _ | refine Ext.trans ?_ (by assumption))) <;> (first | omega | (simp only [AH.zN, AH.zP] <;> omega)))), .inl ⟨rfl, rdS_some hok hl⟩⟩
     ·simp (maxSteps := 2000000) (disch := first | omega | (simp only [AH.zN, AH.zP] <;> omega) | fail) only [amR Tryd.prog ro X, amS, seval, reduceCtorEq, ty3, ty9, ty27, ty97, e0, e2, e4, gG, gR, hl]
      exact ⟨16 - (i + 1), by omega, (by ((repeat' (first | exact Ext.refl _ | assumption | refine Ext.trans ?_ (Ext.new _ _) | refine Ext.put ?_ ?_ _ | refine Ext.trans ?_ (by assumption))) <;> (first | omega | (simp only [AH.zN, AH.zP] <;> omega)))), i + 1, by omega, by omega, rfl, by simp, fun x hx hl2 => by have := nextC x hx hl2 (fun h => hl h.2); simpa using this⟩
    ·simp (maxSteps := 2000000) (disch := first | omega | (simp only [AH.zN, AH.zP] <;> omega) | fail) only [amR Tryd.prog ro X, amS, seval, reduceCtorEq, ty3, ty9, ty27, ty97, e0, e2, e4, gD, hok]
     exact ⟨16 - (i + 1), by omega, (by ((repeat' (first | exact Ext.refl _ | assumption | refine Ext.trans ?_ (Ext.new _ _) | refine Ext.put ?_ ?_ _ | refine Ext.trans ?_ (by assumption))) <;> (first | omega | (simp only [AH.zN, AH.zP] <;> omega)))), i + 1, by omega, by omega, rfl, by simp, fun x hx hl2 => by have := nextC x hx hl2 (fun h => hok h.1); simpa using this⟩
  ·have hil : i = 16 := by simp at h; omega
   subst hil
   simp (maxSteps := 2000000) (disch := first | omega | (simp only [AH.zN, AH.zP] <;> omega) | fail) only [amR Tryd.prog ro X, amS, seval, reduceCtorEq, ty3, ty9, ty27, ty97, e2, gA]
   exact ⟨(0, ⟨#[]⟩, 0), false, rfl, (by ((repeat' (first | exact Ext.refl _ | assumption | refine Ext.trans ?_ (Ext.new _ _) | refine Ext.put ?_ ?_ _ | refine Ext.trans ?_ (by assumption))) <;> (first | omega | (simp only [AH.zN, AH.zP] <;> omega)))), .inr ⟨rfl, rdS_none fun x hx hl => by have := hno x hx hl; have := hx.2.1; omega⟩⟩
end Go.Proofs.YtjlbcofopapajaaDoor.Amu.RdS
