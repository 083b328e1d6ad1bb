import Derived.Test.YtjlbcofopapajaaDoorAmuTy
import Derived.Test.YtjlbcofopapajaaDoorAmRun
import Derived.Test.YtjlbcofopapajaaDoorAmPrs
import Derived.Test.YtjlbcofopapajaaDoorAmuProg
import Derived.Test.YtjlbcofopapajaaDoorAmuLine
import Derived.Test.YtjlbcofopapajaaDoorAmuSplit
import Derived.Test.YtjlbcofopapajaaDoorAmuUnq
namespace Go.Proofs.YtjlbcofopapajaaDoor.Amu.Rd
open Go Go.AM Go.Proofs
set_option linter.all false
open Ty
variable {ro : Nat} {X : FuncId → List Value → AH → ARes → AH → Prop}
set_option maxRecDepth 10000
theorem Atoi_a (hX : Split.PX ro X) (A : AH) (hro : ro ≤ A.size) (h1 : ErrV 3 A) (h2 : ErrV 4 A) (s : ByteArray) (hs : s.size < 1073741824) :
 ACalls Tryd.prog ro X 151 [.string s] A (fun r A' => ∃ n e, r = .ret (.tuple #[.int .i64 n, e]) ∧ Ext A A' ∧ ((e = .nilIface ∧ Lib.atoiAll (ls s) = .ok n) ∨ ∃ T v, e = .iface T v ∧ ∀ k, Lib.atoiAll (ls s) ≠ .ok k)) := by
 by_cases k1 : ∃ v, Lib.atoiAll (ls s) = .ok v
 ·obtain ⟨v, hq⟩ := k1
  exact ⟨_, _, .ext (hX _ _ _ _ _ (.ok rfl rfl (by omega) hq)), v, _, rfl, Ext.refl _, .inl ⟨rfl, hq⟩⟩
 have k2 : ∀ v, Lib.atoiAll (ls s) ≠ .ok v := fun v h => k1 ⟨v, h⟩
 by_cases k3 : Lib.atoiAll (ls s) = .range
 ·exact ⟨_, _, .ext (hX _ _ _ _ _ (.bad rfl rfl (by omega) (.inr ⟨k3, rfl⟩) h1 h2 hro)), _, _, rfl, Ext.new _ _, .inr ⟨_, _, rfl, k2⟩⟩
 ·exact ⟨_, _, .ext (hX _ _ _ _ _ (.bad rfl rfl (by omega) (.inl ⟨⟨k2, k3⟩, rfl⟩) h1 h2 hro)), _, _, rfl, Ext.new _ _, .inr ⟨_, _, rfl, k2⟩⟩
set_option maxHeartbeats 4000000 in
theorem read_a (hX : Split.PX ro X) (A : AH) (hro : ro ≤ A.size) (hT : Tab 0 A) (hP : Pow 1 A) (hES : ErrV 3 A) (hER : ErrV 4 A) (s : ByteArray) (hs : s.size < 1073741824) :
 ACalls Tryd.prog ro X 95 [.string s] A (fun r A' => ∃ (x : TIns) (b : Bool), r = .ret (.tuple #[.agg #[.int .i64 x.1, .string x.2.1, .int .i64 x.2.2], .bool b]) ∧ Ext A A' ∧ ((b = true ∧ rdS s = some x) ∨ (b = false ∧ rdS s = none))) := by
 refine ACalls.enterQ (rs := [.cell 2 97, .tmp 3]) Tryd.func95 rfl (by kernel_rfl) rfl ?_
 simp (maxSteps := 2000000) (disch := first | omega | (simp only [AH.zN, AH.zP] <;> omega) | fail) only [amR Tryd.prog ro X, amS, seval, reduceCtorEq, ty3, ty4, ty5, ty9, ty27, ty97, ty103, ty188, ty189]
 generalize hB : A.new _ = B
 have zB : B.size = A.size + 1 := by rw [← hB]; rfl
 have hEB : Ext A B := by rw [← hB]; exact Ext.new _ _
 have gB : B.get A.size = .cells [.int .i64 0, .string .empty, .int .i64 0] 3 := by rw [← hB]; exact AH.gNs _ _
 clear hB
 refine (Split.Cut_a hX B s hs).mono ?_
 rintro r B2 ⟨rfl, rfl⟩
 have hcut : ∀ y, InsOk y → lineS y = s → (cutS s).1 = opWord y.1 ∧ (cutS s).2.1 = restS y := fun y hy hl => by rw [← hl]; exact line_cut hy
 have hwz : (cutS s).1.size ≤ s.size ∧ (cutS s).2.1.size ≤ s.size := cutS_size s
 generalize (cutS s).1 = w at hcut hwz
 generalize (cutS s).2.1 = rest at hcut hwz
 generalize (cutS s).2.2 = fnd
 have hES2 := hES.ext hEB
 have hER2 := hER.ext hEB
 simp (maxSteps := 2000000) (disch := first | omega | (simp only [AH.zN, AH.zP] <;> omega) | fail) only [amR Tryd.prog ro X, amS, seval, reduceCtorEq, ty3, ty4, ty5, ty9, ty27, ty97, ty103, ty188, ty189]
 refine Wp.loopC (fun k e A' => Ext B2 A' ∧ ∃ i : Nat, 1 ≤ i ∧ i ≤ 16 ∧ k = 16 - i ∧ e 7 = .int .i64 i ∧ e 0 = .string s ∧ e 2 = .pointer (some ⟨A.size, 0, none⟩) ∧ e 4 = .string w ∧ e 5 = .string rest ∧ ∀ j : Nat, 1 ≤ j → j < i → opWord (j : Int) ≠ w) 15 ?_ ?_
 ·simp (maxSteps := 2000000) (disch := first | omega | (simp only [AH.zN, AH.zP] <;> omega) | fail) only [amV, amH, amQ, amL, amN Tryd.prog, amS, seval, reduceCtorEq, ty3, ty4, ty5, ty9, ty27, ty97, ty103, ty188, ty189]
  exact ⟨Ext.refl _, 1, by omega, by omega, rfl, rfl, fun j h1 h2 => by omega⟩
 ·rintro k e A' ⟨hE, i, hi, hi16, rfl, e7, e0, e2, e4, e5, hno⟩
  have zE := hE.size
  have gA := (hE.get A.size (by omega)).trans gB
  have hEA := hEB.trans hE
  simp (maxSteps := 2000000) (disch := first | omega | (simp only [AH.zN, AH.zP] <;> omega) | fail) only [amR Tryd.prog ro X, amS, seval, reduceCtorEq, ty3, ty4, ty5, ty9, ty27, ty97, ty103, ty188, ty189, e7]
  refine CondB.split (fun h => ?_) (fun h => ?_)
  ·have hil : i < 16 := by simp at h; omega
   obtain ⟨sl, c, g1, g2, g3, g4, g5, g6, g7, g8⟩ := (hT.ext hEA).at
   obtain ⟨r0, r1, _, _, _⟩ := g8 (i : Int) (by omega) (by omega)
   simp only [Int.toNat_natCast] at r0 r1
   by_cases hw : opWord (i : Int) = w
   ·have hfound : ∀ y, InsOk y → lineS y = s → (i : Int) = y.1 := fun y hy hl => word_inj (by omega) (by omega) hy.1 hy.2.1 (hw.trans (hcut y hy hl).1)
    rcases kd_cases (i : Int) with ⟨k1, k2, k3⟩ | ⟨k1, k2, k3⟩ | ⟨k1, k2, k3⟩ | ⟨k1, k2, k3⟩ <;> rw [k1] at r1
    ·have kd0 : opKd (i : Int) = 116 := UInt8.toNat_inj.1 (by show (opKd (i : Int)).toNat = 116; omega)
     simp (maxSteps := 2000000) (disch := first | omega | (simp only [AH.zN, AH.zP] <;> omega) | fail) only [amR Tryd.prog ro X, amS, seval, reduceCtorEq, ty3, ty4, ty5, ty9, ty27, ty97, ty103, ty188, ty189, e0, e2, e4, e5, e7, g1, g3, g4, g6, r0, r1, hw]
     generalize hC : AH.put (A'.new _) A'.size _ = C1
     have zC1 : C1.size = A'.size + 1 := by rw [← hC]; rfl
     have hEC1 : Ext A' C1 := by rw [← hC]; exact (by ((repeat' (first | exact Ext.refl _ | assumption | refine Ext.trans ?_ (Ext.new _ _) | refine Ext.put ?_ ?_ _ | refine Ext.trans ?_ (by assumption))) <;> (first | omega | (simp only [AH.zN, AH.zP] <;> omega))))
     have gC1 : C1.get A'.size = .cells [.int .i64 i, .string ⟨#[]⟩, .int .i64 0] 3 := by rw [← hC]; exact AH.gPs _ _ _
     have gC01 := (hEC1.get A.size (by omega)).trans gA
     clear hC
     refine (Unq.unquote_a hX C1 (by omega) rest (by omega)).mono ?_
     rintro r C2 ⟨t, b, rfl, hEC2, htz, ht⟩
     have zC2 := hEC2.size
     have gC2 := (hEC2.get A'.size (by omega)).trans gC1
     have gC02 := (hEC2.get A.size (by omega)).trans gC01
     have hrest : ∀ y, InsOk y → lineS y = s → rest = quoteS y.2.1 := fun y hy hl => by
      rw [(hcut y hy hl).2]
      unfold restS
      rw [if_pos (by rw [← hfound y hy hl]; exact kd0)]
     by_cases hb : b = true
     ·simp (maxSteps := 2000000) (disch := first | omega | (simp only [AH.zN, AH.zP] <;> omega) | fail) only [amR Tryd.prog ro X, amS, seval, reduceCtorEq, ty3, ty4, ty5, ty9, ty27, ty97, ty103, ty188, ty189, e0, e2, e4, e5, e7, gC2, hb]
      generalize hC : AH.put C2 A'.size _ = C
      have zC : C.size = C2.size := by rw [← hC]; rfl
      have hEC : Ext A' C := by rw [← hC]; exact (by ((repeat' (first | exact Ext.refl _ | assumption | refine Ext.trans ?_ (Ext.new _ _) | refine Ext.put ?_ ?_ _ | refine Ext.trans ?_ (by assumption))) <;> (first | omega | (simp only [AH.zN, AH.zP] <;> omega))))
      have gC : C.get A'.size = .cells [.int .i64 i, .string t, .int .i64 0] 3 := by rw [← hC]; exact AH.gPs _ _ _
      have gC0 := (hEC.get A.size (by omega)).trans gA
      clear hC
      refine Wp.runG [2, 5] (by kernel_rfl) (.inr (by intro v e A h; simp only [amK, amQ, thenQ, blockQ, endQ, reduceCtorEq, false_and, exists_false] at h)) ?_
      simp (maxSteps := 2000000) (disch := first | omega | (simp only [AH.zN, AH.zP] <;> omega) | fail) only [amR Tryd.prog ro X, amS, seval, reduceCtorEq, ty3, ty4, ty5, ty9, ty27, ty97, ty103, ty188, ty189, gC]
      refine (Prog.validIns_a C (by omega) (hT.ext (hEA.trans hEC)) ((i : Int), t, (0 : Int)) (by show t.size < _; omega)).mono ?_
      rintro r D ⟨rfl, hED⟩
      have zD := hED.size
      have gD := (hED.get A'.size (by omega)).trans gC
      have bad : ¬ (InsOk ((i : Int), t, (0 : Int)) ∧ lineS ((i : Int), t, (0 : Int)) = s) → rdS s = none := fun hn => rdS_none fun y hy hl => by
       have h5 := hfound y hy hl
       have hye : y = ((i : Int), t, (0 : Int)) := (ins_text hy (by rw [← h5]; exact kd0)).trans (by rw [← h5, (ht y.2.1 (hrest y hy hl)).2])
       rw [hye] at hy hl
       exact hn ⟨hy, hl⟩
      by_cases hok : InsOk ((i : Int), t, (0 : Int))
      ·obtain ⟨v1, v2, v3, v4, v5⟩ := insB3 hok
       simp (maxSteps := 2000000) (disch := first | omega | (simp only [AH.zN, AH.zP] <;> omega) | fail) only [amR Tryd.prog ro X, amS, seval, reduceCtorEq, ty3, ty4, ty5, ty9, ty27, ty97, ty103, ty188, ty189, e0, e2, gD, hok]
       refine ⟨fun b hb => hED.get b hb, ?_⟩
       refine (Line.insLine_a D (by omega) (hT.ext ((hEA.trans hEC).trans hED)) (hP.ext ((hEA.trans hEC).trans hED)) ((i : Int), t, (0 : Int)) v1 v2 v3 v4 v5).mono ?_
       rintro r G ⟨rfl, hEG⟩
       have zG := hEG.size
       have gG := (hEG.get A'.size (by omega)).trans gD
       have gR := ((hEG.get A.size (by omega)).trans (hED.get A.size (by omega))).trans gC0
       by_cases hl : lineS ((i : Int), t, (0 : Int)) = s
       ·simp (maxSteps := 2000000) (disch := first | omega | (simp only [AH.zN, AH.zP] <;> omega) | fail) only [amR Tryd.prog ro X, amS, seval, reduceCtorEq, ty3, ty4, ty5, ty9, ty27, ty97, ty103, ty188, ty189, e0, e2, gG, gR, hl]
        exact ⟨fun b hb => hEG.get b hb, ((i : Int), t, (0 : Int)), true, rfl, (by ((repeat' (first | exact Ext.refl _ | assumption | refine Ext.trans ?_ (Ext.new _ _) | refine Ext.put ?_ ?_ _ | refine Ext.trans ?_ (by assumption))) <;> (first | omega | (simp only [AH.zN, AH.zP] <;> omega)))), .inl ⟨rfl, rdS_some hok hl⟩⟩
       ·simp (maxSteps := 2000000) (disch := first | omega | (simp only [AH.zN, AH.zP] <;> omega) | fail) only [amR Tryd.prog ro X, amS, seval, reduceCtorEq, ty3, ty4, ty5, ty9, ty27, ty97, ty103, ty188, ty189, e0, e2, gG, gR, hl]
        exact ⟨fun b hb => hEG.get b hb, ((i : Int), t, (0 : Int)), false, rfl, (by ((repeat' (first | exact Ext.refl _ | assumption | refine Ext.trans ?_ (Ext.new _ _) | refine Ext.put ?_ ?_ _ | refine Ext.trans ?_ (by assumption))) <;> (first | omega | (simp only [AH.zN, AH.zP] <;> omega)))), .inr ⟨rfl, bad fun h => hl h.2⟩⟩
      ·have gR := (hED.get A.size (by omega)).trans gC0
       simp (maxSteps := 2000000) (disch := first | omega | (simp only [AH.zN, AH.zP] <;> omega) | fail) only [amR Tryd.prog ro X, amS, seval, reduceCtorEq, ty3, ty4, ty5, ty9, ty27, ty97, ty103, ty188, ty189, e0, e2, gD, gR, hok]
       exact ⟨fun b hb => hED.get b hb, ((i : Int), t, (0 : Int)), false, rfl, (by ((repeat' (first | exact Ext.refl _ | assumption | refine Ext.trans ?_ (Ext.new _ _) | refine Ext.put ?_ ?_ _ | refine Ext.trans ?_ (by assumption))) <;> (first | omega | (simp only [AH.zN, AH.zP] <;> omega)))), .inr ⟨rfl, bad fun h => hok h.1⟩⟩
     ·simp (maxSteps := 2000000) (disch := first | omega | (simp only [AH.zN, AH.zP] <;> omega) | fail) only [amR Tryd.prog ro X, amS, seval, reduceCtorEq, ty3, ty4, ty5, ty9, ty27, ty97, ty103, ty188, ty189, e0, e2, e4, e5, e7, gC2, gC02, hb]
      exact ⟨(0, ⟨#[]⟩, 0), false, rfl, (by ((repeat' (first | exact Ext.refl _ | assumption | refine Ext.trans ?_ (Ext.new _ _) | refine Ext.put ?_ ?_ _ | refine Ext.trans ?_ (by assumption))) <;> (first | omega | (simp only [AH.zN, AH.zP] <;> omega)))), .inr ⟨rfl, rdS_none fun y hy hl => hb (ht y.2.1 (hrest y hy hl)).1⟩⟩
    ·have kd0 : opKd (i : Int) = 110 := UInt8.toNat_inj.1 (by show (opKd (i : Int)).toNat = 110; omega)
     simp (maxSteps := 2000000) (disch := first | omega | (simp only [AH.zN, AH.zP] <;> omega) | fail) only [amR Tryd.prog ro X, amS, seval, reduceCtorEq, ty3, ty4, ty5, ty9, ty27, ty97, ty103, ty188, ty189, e0, e2, e4, e5, e7, g1, g3, g4, g6, r0, r1, hw]
     generalize hC : AH.put (A'.new _) A'.size _ = C1
     have zC1 : C1.size = A'.size + 1 := by rw [← hC]; rfl
     have hEC1 : Ext A' C1 := by rw [← hC]; exact (by ((repeat' (first | exact Ext.refl _ | assumption | refine Ext.trans ?_ (Ext.new _ _) | refine Ext.put ?_ ?_ _ | refine Ext.trans ?_ (by assumption))) <;> (first | omega | (simp only [AH.zN, AH.zP] <;> omega))))
     have gC1 : C1.get A'.size = .cells [.int .i64 i, .string ⟨#[]⟩, .int .i64 0] 3 := by rw [← hC]; exact AH.gPs _ _ _
     have gC01 := (hEC1.get A.size (by omega)).trans gA
     clear hC
     refine (Atoi_a hX C1 (by omega) (hES2.ext (hE.trans hEC1)) (hER2.ext (hE.trans hEC1)) rest (by omega)).mono ?_
     rintro r C2 ⟨n, er, rfl, hEC2, hor⟩
     have zC2 := hEC2.size
     have gC2 := (hEC2.get A'.size (by omega)).trans gC1
     have gC02 := (hEC2.get A.size (by omega)).trans gC01
     have hrest : ∀ y, InsOk y → lineS y = s → Lib.atoiAll (ls rest) = .ok ((y.2.2.toNat : Nat) : Int) := fun y hy hl => by
      have i5 := ins_num hy
      have kk : opKd y.1 = 110 := by rw [← hfound y hy hl]; exact kd0
      rw [(hcut y hy hl).2]
      unfold restS
      rw [if_neg (by rw [kk]; decide), if_neg (by rw [kk]; decide), dec_atoi (by omega)]
     rcases hor with ⟨rfl, hv⟩ | ⟨T, v, rfl, hv⟩
     ·simp (maxSteps := 2000000) (disch := first | omega | (simp only [AH.zN, AH.zP] <;> omega) | fail) only [amR Tryd.prog ro X, amS, seval, reduceCtorEq, ty3, ty4, ty5, ty9, ty27, ty97, ty103, ty188, ty189, e0, e2, e4, e5, e7, gC2]
      generalize hC : AH.put C2 A'.size _ = C
      have zC : C.size = C2.size := by rw [← hC]; rfl
      have hEC : Ext A' C := by rw [← hC]; exact (by ((repeat' (first | exact Ext.refl _ | assumption | refine Ext.trans ?_ (Ext.new _ _) | refine Ext.put ?_ ?_ _ | refine Ext.trans ?_ (by assumption))) <;> (first | omega | (simp only [AH.zN, AH.zP] <;> omega))))
      have gC : C.get A'.size = .cells [.int .i64 i, .string ⟨#[]⟩, .int .i64 n] 3 := by rw [← hC]; exact AH.gPs _ _ _
      have gC0 := (hEC.get A.size (by omega)).trans gA
      clear hC
      refine Wp.runG [2, 5] (by kernel_rfl) (.inr (by intro v e A h; simp only [amK, amQ, thenQ, blockQ, endQ, reduceCtorEq, false_and, exists_false] at h)) ?_
      simp (maxSteps := 2000000) (disch := first | omega | (simp only [AH.zN, AH.zP] <;> omega) | fail) only [amR Tryd.prog ro X, amS, seval, reduceCtorEq, ty3, ty4, ty5, ty9, ty27, ty97, ty103, ty188, ty189, gC]
      refine (Prog.validIns_a C (by omega) (hT.ext (hEA.trans hEC)) ((i : Int), ⟨#[]⟩, (n : Int)) (by show 0 < _; omega)).mono ?_
      rintro r D ⟨rfl, hED⟩
      have zD := hED.size
      have gD := (hED.get A'.size (by omega)).trans gC
      have bad : ¬ (InsOk ((i : Int), ⟨#[]⟩, (n : Int)) ∧ lineS ((i : Int), ⟨#[]⟩, (n : Int)) = s) → rdS s = none := fun hn => rdS_none fun y hy hl => by
       have h5 := hfound y hy hl
       have hye : y = ((i : Int), ⟨#[]⟩, (n : Int)) := (ins_numk hy (by rw [← h5]; exact .inl kd0)).trans (by have h6 := hrest y hy hl; rw [hv] at h6; injection h6 with h6; rw [← h5, h6])
       rw [hye] at hy hl
       exact hn ⟨hy, hl⟩
      by_cases hok : InsOk ((i : Int), ⟨#[]⟩, (n : Int))
      ·obtain ⟨v1, v2, v3, v4, v5⟩ := insB3 hok
       simp (maxSteps := 2000000) (disch := first | omega | (simp only [AH.zN, AH.zP] <;> omega) | fail) only [amR Tryd.prog ro X, amS, seval, reduceCtorEq, ty3, ty4, ty5, ty9, ty27, ty97, ty103, ty188, ty189, e0, e2, gD, hok]
       refine ⟨fun b hb => hED.get b hb, ?_⟩
       refine (Line.insLine_a D (by omega) (hT.ext ((hEA.trans hEC).trans hED)) (hP.ext ((hEA.trans hEC).trans hED)) ((i : Int), ⟨#[]⟩, (n : Int)) v1 v2 v3 v4 v5).mono ?_
       rintro r G ⟨rfl, hEG⟩
       have zG := hEG.size
       have gG := (hEG.get A'.size (by omega)).trans gD
       have gR := ((hEG.get A.size (by omega)).trans (hED.get A.size (by omega))).trans gC0
       by_cases hl : lineS ((i : Int), ⟨#[]⟩, (n : Int)) = s
       ·simp (maxSteps := 2000000) (disch := first | omega | (simp only [AH.zN, AH.zP] <;> omega) | fail) only [amR Tryd.prog ro X, amS, seval, reduceCtorEq, ty3, ty4, ty5, ty9, ty27, ty97, ty103, ty188, ty189, e0, e2, gG, gR, hl]
        exact ⟨fun b hb => hEG.get b hb, ((i : Int), ⟨#[]⟩, (n : Int)), true, rfl, (by ((repeat' (first | exact Ext.refl _ | assumption | refine Ext.trans ?_ (Ext.new _ _) | refine Ext.put ?_ ?_ _ | refine Ext.trans ?_ (by assumption))) <;> (first | omega | (simp only [AH.zN, AH.zP] <;> omega)))), .inl ⟨rfl, rdS_some hok hl⟩⟩
       ·simp (maxSteps := 2000000) (disch := first | omega | (simp only [AH.zN, AH.zP] <;> omega) | fail) only [amR Tryd.prog ro X, amS, seval, reduceCtorEq, ty3, ty4, ty5, ty9, ty27, ty97, ty103, ty188, ty189, e0, e2, gG, gR, hl]
        exact ⟨fun b hb => hEG.get b hb, ((i : Int), ⟨#[]⟩, (n : Int)), false, rfl, (by ((repeat' (first | exact Ext.refl _ | assumption | refine Ext.trans ?_ (Ext.new _ _) | refine Ext.put ?_ ?_ _ | refine Ext.trans ?_ (by assumption))) <;> (first | omega | (simp only [AH.zN, AH.zP] <;> omega)))), .inr ⟨rfl, bad fun h => hl h.2⟩⟩
      ·have gR := (hED.get A.size (by omega)).trans gC0
       simp (maxSteps := 2000000) (disch := first | omega | (simp only [AH.zN, AH.zP] <;> omega) | fail) only [amR Tryd.prog ro X, amS, seval, reduceCtorEq, ty3, ty4, ty5, ty9, ty27, ty97, ty103, ty188, ty189, e0, e2, gD, gR, hok]
       exact ⟨fun b hb => hED.get b hb, ((i : Int), ⟨#[]⟩, (n : Int)), false, rfl, (by ((repeat' (first | exact Ext.refl _ | assumption | refine Ext.trans ?_ (Ext.new _ _) | refine Ext.put ?_ ?_ _ | refine Ext.trans ?_ (by assumption))) <;> (first | omega | (simp only [AH.zN, AH.zP] <;> omega)))), .inr ⟨rfl, bad fun h => hok h.1⟩⟩
     ·simp (maxSteps := 2000000) (disch := first | omega | (simp only [AH.zN, AH.zP] <;> omega) | fail) only [amR Tryd.prog ro X, amS, seval, reduceCtorEq, ty3, ty4, ty5, ty9, ty27, ty97, ty103, ty188, ty189, e0, e2, e4, e5, e7, gC2, gC02]
      exact ⟨(0, ⟨#[]⟩, 0), false, rfl, (by ((repeat' (first | exact Ext.refl _ | assumption | refine Ext.trans ?_ (Ext.new _ _) | refine Ext.put ?_ ?_ _ | refine Ext.trans ?_ (by assumption))) <;> (first | omega | (simp only [AH.zN, AH.zP] <;> omega)))), .inr ⟨rfl, rdS_none fun y hy hl => hv _ (hrest y hy hl)⟩⟩
    ·have kd0 : opKd (i : Int) = 106 := UInt8.toNat_inj.1 (by show (opKd (i : Int)).toNat = 106; omega)
     simp (maxSteps := 2000000) (disch := first | omega | (simp only [AH.zN, AH.zP] <;> omega) | fail) only [amR Tryd.prog ro X, amS, seval, reduceCtorEq, ty3, ty4, ty5, ty9, ty27, ty97, ty103, ty188, ty189, e0, e2, e4, e5, e7, g1, g3, g4, g6, r0, r1, hw]
     generalize hC : AH.put (A'.new _) A'.size _ = C1
     have zC1 : C1.size = A'.size + 1 := by rw [← hC]; rfl
     have hEC1 : Ext A' C1 := by rw [← hC]; exact (by ((repeat' (first | exact Ext.refl _ | assumption | refine Ext.trans ?_ (Ext.new _ _) | refine Ext.put ?_ ?_ _ | refine Ext.trans ?_ (by assumption))) <;> (first | omega | (simp only [AH.zN, AH.zP] <;> omega))))
     have gC1 : C1.get A'.size = .cells [.int .i64 i, .string ⟨#[]⟩, .int .i64 0] 3 := by rw [← hC]; exact AH.gPs _ _ _
     have gC01 := (hEC1.get A.size (by omega)).trans gA
     clear hC
     refine (Atoi_a hX C1 (by omega) (hES2.ext (hE.trans hEC1)) (hER2.ext (hE.trans hEC1)) rest (by omega)).mono ?_
     rintro r C2 ⟨n, er, rfl, hEC2, hor⟩
     have zC2 := hEC2.size
     have gC2 := (hEC2.get A'.size (by omega)).trans gC1
     have gC02 := (hEC2.get A.size (by omega)).trans gC01
     have hrest : ∀ y, InsOk y → lineS y = s → Lib.atoiAll (ls rest) = .ok ((y.2.2.toNat : Nat) : Int) := fun y hy hl => by
      have i5 := ins_num hy
      have kk : opKd y.1 = 106 := by rw [← hfound y hy hl]; exact kd0
      rw [(hcut y hy hl).2]
      unfold restS
      rw [if_neg (by rw [kk]; decide), if_neg (by rw [kk]; decide), dec_atoi (by omega)]
     rcases hor with ⟨rfl, hv⟩ | ⟨T, v, rfl, hv⟩
     ·simp (maxSteps := 2000000) (disch := first | omega | (simp only [AH.zN, AH.zP] <;> omega) | fail) only [amR Tryd.prog ro X, amS, seval, reduceCtorEq, ty3, ty4, ty5, ty9, ty27, ty97, ty103, ty188, ty189, e0, e2, e4, e5, e7, gC2]
      generalize hC : AH.put C2 A'.size _ = C
      have zC : C.size = C2.size := by rw [← hC]; rfl
      have hEC : Ext A' C := by rw [← hC]; exact (by ((repeat' (first | exact Ext.refl _ | assumption | refine Ext.trans ?_ (Ext.new _ _) | refine Ext.put ?_ ?_ _ | refine Ext.trans ?_ (by assumption))) <;> (first | omega | (simp only [AH.zN, AH.zP] <;> omega))))
      have gC : C.get A'.size = .cells [.int .i64 i, .string ⟨#[]⟩, .int .i64 n] 3 := by rw [← hC]; exact AH.gPs _ _ _
      have gC0 := (hEC.get A.size (by omega)).trans gA
      clear hC
      refine Wp.runG [2, 5] (by kernel_rfl) (.inr (by intro v e A h; simp only [amK, amQ, thenQ, blockQ, endQ, reduceCtorEq, false_and, exists_false] at h)) ?_
      simp (maxSteps := 2000000) (disch := first | omega | (simp only [AH.zN, AH.zP] <;> omega) | fail) only [amR Tryd.prog ro X, amS, seval, reduceCtorEq, ty3, ty4, ty5, ty9, ty27, ty97, ty103, ty188, ty189, gC]
      refine (Prog.validIns_a C (by omega) (hT.ext (hEA.trans hEC)) ((i : Int), ⟨#[]⟩, (n : Int)) (by show 0 < _; omega)).mono ?_
      rintro r D ⟨rfl, hED⟩
      have zD := hED.size
      have gD := (hED.get A'.size (by omega)).trans gC
      have bad : ¬ (InsOk ((i : Int), ⟨#[]⟩, (n : Int)) ∧ lineS ((i : Int), ⟨#[]⟩, (n : Int)) = s) → rdS s = none := fun hn => rdS_none fun y hy hl => by
       have h5 := hfound y hy hl
       have hye : y = ((i : Int), ⟨#[]⟩, (n : Int)) := (ins_numk hy (by rw [← h5]; exact .inr kd0)).trans (by have h6 := hrest y hy hl; rw [hv] at h6; injection h6 with h6; rw [← h5, h6])
       rw [hye] at hy hl
       exact hn ⟨hy, hl⟩
      by_cases hok : InsOk ((i : Int), ⟨#[]⟩, (n : Int))
      ·obtain ⟨v1, v2, v3, v4, v5⟩ := insB3 hok
       simp (maxSteps := 2000000) (disch := first | omega | (simp only [AH.zN, AH.zP] <;> omega) | fail) only [amR Tryd.prog ro X, amS, seval, reduceCtorEq, ty3, ty4, ty5, ty9, ty27, ty97, ty103, ty188, ty189, e0, e2, gD, hok]
       refine ⟨fun b hb => hED.get b hb, ?_⟩
       refine (Line.insLine_a D (by omega) (hT.ext ((hEA.trans hEC).trans hED)) (hP.ext ((hEA.trans hEC).trans hED)) ((i : Int), ⟨#[]⟩, (n : Int)) v1 v2 v3 v4 v5).mono ?_
       rintro r G ⟨rfl, hEG⟩
       have zG := hEG.size
       have gG := (hEG.get A'.size (by omega)).trans gD
       have gR := ((hEG.get A.size (by omega)).trans (hED.get A.size (by omega))).trans gC0
       by_cases hl : lineS ((i : Int), ⟨#[]⟩, (n : Int)) = s
       ·simp (maxSteps := 2000000) (disch := first | omega | (simp only [AH.zN, AH.zP] <;> omega) | fail) only [amR Tryd.prog ro X, amS, seval, reduceCtorEq, ty3, ty4, ty5, ty9, ty27, ty97, ty103, ty188, ty189, e0, e2, gG, gR, hl]
        exact ⟨fun b hb => hEG.get b hb, ((i : Int), ⟨#[]⟩, (n : Int)), true, rfl, (by ((repeat' (first | exact Ext.refl _ | assumption | refine Ext.trans ?_ (Ext.new _ _) | refine Ext.put ?_ ?_ _ | refine Ext.trans ?_ (by assumption))) <;> (first | omega | (simp only [AH.zN, AH.zP] <;> omega)))), .inl ⟨rfl, rdS_some hok hl⟩⟩
       ·simp (maxSteps := 2000000) (disch := first | omega | (simp only [AH.zN, AH.zP] <;> omega) | fail) only [amR Tryd.prog ro X, amS, seval, reduceCtorEq, ty3, ty4, ty5, ty9, ty27, ty97, ty103, ty188, ty189, e0, e2, gG, gR, hl]
        exact ⟨fun b hb => hEG.get b hb, ((i : Int), ⟨#[]⟩, (n : Int)), false, rfl, (by ((repeat' (first | exact Ext.refl _ | assumption | refine Ext.trans ?_ (Ext.new _ _) | refine Ext.put ?_ ?_ _ | refine Ext.trans ?_ (by assumption))) <;> (first | omega | (simp only [AH.zN, AH.zP] <;> omega)))), .inr ⟨rfl, bad fun h => hl h.2⟩⟩
      ·have gR := (hED.get A.size (by omega)).trans gC0
       simp (maxSteps := 2000000) (disch := first | omega | (simp only [AH.zN, AH.zP] <;> omega) | fail) only [amR Tryd.prog ro X, amS, seval, reduceCtorEq, ty3, ty4, ty5, ty9, ty27, ty97, ty103, ty188, ty189, e0, e2, gD, gR, hok]
       exact ⟨fun b hb => hED.get b hb, ((i : Int), ⟨#[]⟩, (n : Int)), false, rfl, (by ((repeat' (first | exact Ext.refl _ | assumption | refine Ext.trans ?_ (Ext.new _ _) | refine Ext.put ?_ ?_ _ | refine Ext.trans ?_ (by assumption))) <;> (first | omega | (simp only [AH.zN, AH.zP] <;> omega)))), .inr ⟨rfl, bad fun h => hok h.1⟩⟩
     ·simp (maxSteps := 2000000) (disch := first | omega | (simp only [AH.zN, AH.zP] <;> omega) | fail) only [amR Tryd.prog ro X, amS, seval, reduceCtorEq, ty3, ty4, ty5, ty9, ty27, ty97, ty103, ty188, ty189, e0, e2, e4, e5, e7, gC2, gC02]
      exact ⟨(0, ⟨#[]⟩, 0), false, rfl, (by ((repeat' (first | exact Ext.refl _ | assumption | refine Ext.trans ?_ (Ext.new _ _) | refine Ext.put ?_ ?_ _ | refine Ext.trans ?_ (by assumption))) <;> (first | omega | (simp only [AH.zN, AH.zP] <;> omega)))), .inr ⟨rfl, rdS_none fun y hy hl => hv _ (hrest y hy hl)⟩⟩
    ·have kd0 : opKd (i : Int) = 0 := UInt8.toNat_inj.1 (by show (opKd (i : Int)).toNat = 0; omega)
     simp (maxSteps := 2000000) (disch := first | omega | (simp only [AH.zN, AH.zP] <;> omega) | fail) only [amR Tryd.prog ro X, amS, seval, reduceCtorEq, ty3, ty4, ty5, ty9, ty27, ty97, ty103, ty188, ty189, e0, e2, e4, e5, e7, g1, g3, g4, g6, r0, r1, hw]
     generalize hC : AH.put (A'.new _) A'.size _ = C
     have zC : C.size = A'.size + 1 := by rw [← hC]; rfl
     have hEC : Ext A' C := by rw [← hC]; exact (by ((repeat' (first | exact Ext.refl _ | assumption | refine Ext.trans ?_ (Ext.new _ _) | refine Ext.put ?_ ?_ _ | refine Ext.trans ?_ (by assumption))) <;> (first | omega | (simp only [AH.zN, AH.zP] <;> omega))))
     have gC : C.get A'.size = .cells [.int .i64 i, .string ⟨#[]⟩, .int .i64 0] 3 := by rw [← hC]; exact AH.gPs _ _ _
     have gC0 := (hEC.get A.size (by omega)).trans gA
     clear hC
     refine Wp.runG [2, 5] (by kernel_rfl) (.inr (by intro v e A h; simp only [amK, amQ, thenQ, blockQ, endQ, reduceCtorEq, false_and, exists_false] at h)) ?_
     simp (maxSteps := 2000000) (disch := first | omega | (simp only [AH.zN, AH.zP] <;> omega) | fail) only [amR Tryd.prog ro X, amS, seval, reduceCtorEq, ty3, ty4, ty5, ty9, ty27, ty97, ty103, ty188, ty189, gC]
     refine (Prog.validIns_a C (by omega) (hT.ext (hEA.trans hEC)) ((i : Int), ⟨#[]⟩, (0 : Int)) (by show 0 < _; omega)).mono ?_
     rintro r D ⟨rfl, hED⟩
     have zD := hED.size
     have gD := (hED.get A'.size (by omega)).trans gC
     have bad : ¬ (InsOk ((i : Int), ⟨#[]⟩, (0 : Int)) ∧ lineS ((i : Int), ⟨#[]⟩, (0 : Int)) = s) → rdS s = none := fun hn => rdS_none fun y hy hl => by
      have h5 := hfound y hy hl
      have hye : y = ((i : Int), ⟨#[]⟩, (0 : Int)) := (ins_kind0 hy (by rw [← h5]; exact kd0)).trans (by rw [← h5])
      rw [hye] at hy hl
      exact hn ⟨hy, hl⟩
     by_cases hok : InsOk ((i : Int), ⟨#[]⟩, (0 : Int))
     ·obtain ⟨v1, v2, v3, v4, v5⟩ := insB3 hok
      simp (maxSteps := 2000000) (disch := first | omega | (simp only [AH.zN, AH.zP] <;> omega) | fail) only [amR Tryd.prog ro X, amS, seval, reduceCtorEq, ty3, ty4, ty5, ty9, ty27, ty97, ty103, ty188, ty189, e0, e2, gD, hok]
      refine ⟨fun b hb => hED.get b hb, ?_⟩
      refine (Line.insLine_a D (by omega) (hT.ext ((hEA.trans hEC).trans hED)) (hP.ext ((hEA.trans hEC).trans hED)) ((i : Int), ⟨#[]⟩, (0 : Int)) v1 v2 v3 v4 v5).mono ?_
      rintro r G ⟨rfl, hEG⟩
      have zG := hEG.size
      have gG := (hEG.get A'.size (by omega)).trans gD
      have gR := ((hEG.get A.size (by omega)).trans (hED.get A.size (by omega))).trans gC0
      by_cases hl : lineS ((i : Int), ⟨#[]⟩, (0 : Int)) = s
      ·simp (maxSteps := 2000000) (disch := first | omega | (simp only [AH.zN, AH.zP] <;> omega) | fail) only [amR Tryd.prog ro X, amS, seval, reduceCtorEq, ty3, ty4, ty5, ty9, ty27, ty97, ty103, ty188, ty189, e0, e2, gG, gR, hl]
       exact ⟨fun b hb => hEG.get b hb, ((i : Int), ⟨#[]⟩, (0 : Int)), true, rfl, (by ((repeat' (first | exact Ext.refl _ | assumption | refine Ext.trans ?_ (Ext.new _ _) | refine Ext.put ?_ ?_ _ | refine Ext.trans ?_ (by assumption))) <;> (first | omega | (simp only [AH.zN, AH.zP] <;> omega)))), .inl ⟨rfl, rdS_some hok hl⟩⟩
      ·simp (maxSteps := 2000000) (disch := first | omega | (simp only [AH.zN, AH.zP] <;> omega) | fail) only [amR Tryd.prog ro X, amS, seval, reduceCtorEq, ty3, ty4, ty5, ty9, ty27, ty97, ty103, ty188, ty189, e0, e2, gG, gR, hl]
       exact ⟨fun b hb => hEG.get b hb, ((i : Int), ⟨#[]⟩, (0 : Int)), false, rfl, (by ((repeat' (first | exact Ext.refl _ | assumption | refine Ext.trans ?_ (Ext.new _ _) | refine Ext.put ?_ ?_ _ | refine Ext.trans ?_ (by assumption))) <;> (first | omega | (simp only [AH.zN, AH.zP] <;> omega)))), .inr ⟨rfl, bad fun h => hl h.2⟩⟩
     ·have gR := (hED.get A.size (by omega)).trans gC0
      simp (maxSteps := 2000000) (disch := first | omega | (simp only [AH.zN, AH.zP] <;> omega) | fail) only [amR Tryd.prog ro X, amS, seval, reduceCtorEq, ty3, ty4, ty5, ty9, ty27, ty97, ty103, ty188, ty189, e0, e2, gD, gR, hok]
      exact ⟨fun b hb => hED.get b hb, ((i : Int), ⟨#[]⟩, (0 : Int)), false, rfl, (by ((repeat' (first | exact Ext.refl _ | assumption | refine Ext.trans ?_ (Ext.new _ _) | refine Ext.put ?_ ?_ _ | refine Ext.trans ?_ (by assumption))) <;> (first | omega | (simp only [AH.zN, AH.zP] <;> omega)))), .inr ⟨rfl, bad fun h => hok h.1⟩⟩
   ·simp (maxSteps := 2000000) (disch := first | omega | (simp only [AH.zN, AH.zP] <;> omega) | fail) only [amR Tryd.prog ro X, amS, seval, reduceCtorEq, ty3, ty4, ty5, ty9, ty27, ty97, ty103, ty188, ty189, e0, e2, e4, e5, e7, g1, g3, g4, g6, r0, hw]
    exact ⟨16 - (i + 1), by omega, hE, i + 1, by omega, by omega, rfl, by simp, fun j h1 h2 => by
     rcases Nat.lt_or_eq_of_le (Nat.le_of_lt_succ h2) with h3 | h3
     ·exact hno j h1 h3
     ·rw [h3]; exact hw⟩
  ·have hil : i = 16 := by simp at h; omega
   subst hil
   simp (maxSteps := 2000000) (disch := first | omega | (simp only [AH.zN, AH.zP] <;> omega) | fail) only [amR Tryd.prog ro X, amS, seval, reduceCtorEq, ty3, ty4, ty5, ty9, ty27, ty97, ty103, ty188, ty189, e2, gA]
   refine ⟨(0, ⟨#[]⟩, 0), false, rfl, (by ((repeat' (first | exact Ext.refl _ | assumption | refine Ext.trans ?_ (Ext.new _ _) | refine Ext.put ?_ ?_ _ | refine Ext.trans ?_ (by assumption))) <;> (first | omega | (simp only [AH.zN, AH.zP] <;> omega)))), .inr ⟨rfl, rdS_none fun y hy hl => ?_⟩⟩
   have h1 := (hcut y hy hl).1
   have h2 := hy.1
   have h3 := hy.2.1
   exact hno y.1.toNat (by omega) (by omega) (by rw [h1]; congr 1; omega)
end Go.Proofs.YtjlbcofopapajaaDoor.Amu.Rd
