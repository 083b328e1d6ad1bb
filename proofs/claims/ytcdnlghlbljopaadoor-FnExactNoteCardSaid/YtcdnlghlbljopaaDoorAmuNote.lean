/- Notes. -/
import Derived.Test.YtcdnlghlbljopaaDoorAmZ
import Derived.Test.YtcdnlghlbljopaaDoorAmuForm
import Derived.Test.YtcdnlghlbljopaaDoorAmuProg
import Derived.Test.YtcdnlghlbljopaaDoorAmuStore
import Derived.Test.YtcdnlghlbljopaaDoorAmuCopy
namespace Go.Proofs.YtcdnlghlbljopaaDoor.Amu.Note
open Go Go.AM Go.Proofs
set_option linter.unusedVariables false
set_option linter.unusedSimpArgs false
theorem ty3 : tKind Tryd.prog 3 = some (.int .i64) ∧ tSize Tryd.prog 3 = some 1 ∧ tAgg Tryd.prog 3 = some false ∧ tZero Tryd.prog 3 = some (.int .i64 0) := ⟨by kernel_rfl, by kernel_rfl, by kernel_rfl, by kernel_rfl⟩
theorem ty4 : tKind Tryd.prog 4 = some (.bool) ∧ tSize Tryd.prog 4 = some 1 ∧ tAgg Tryd.prog 4 = some false ∧ tZero Tryd.prog 4 = some (.bool false) := ⟨by kernel_rfl, by kernel_rfl, by kernel_rfl, by kernel_rfl⟩
theorem ty9 : tKind Tryd.prog 9 = some (.str) ∧ tSize Tryd.prog 9 = some 1 ∧ tAgg Tryd.prog 9 = some false ∧ tZero Tryd.prog 9 = some (.string ByteArray.empty) := ⟨by kernel_rfl, by kernel_rfl, by kernel_rfl, by kernel_rfl⟩
theorem ty27 : tKind Tryd.prog 27 = some (.slice) ∧ tSize Tryd.prog 27 = some 1 ∧ tAgg Tryd.prog 27 = some false ∧ tZero Tryd.prog 27 = some (.slice none 0 0) ∧ tElem Tryd.prog 27 = some 109 ∧ tElemSize Tryd.prog 27 = some 3 ∧ tBytes Tryd.prog 27 = false := ⟨by kernel_rfl, by kernel_rfl, by kernel_rfl, by kernel_rfl, by kernel_rfl, by kernel_rfl, by kernel_rfl⟩
theorem ty29 : tKind Tryd.prog 29 = some (.struct) ∧ tSize Tryd.prog 29 = some 1 ∧ tAgg Tryd.prog 29 = some true ∧ tZero Tryd.prog 29 = some (.agg #[.slice none 0 0]) ∧ tField Tryd.prog 29 0 = some (0, 27) ∧ tPlaces Tryd.prog 29 = some [(0, 1)] := ⟨by kernel_rfl, by kernel_rfl, by kernel_rfl, by kernel_rfl, by kernel_rfl, by kernel_rfl⟩
theorem ty47 : tKind Tryd.prog 47 = some (.slice) ∧ tSize Tryd.prog 47 = some 1 ∧ tAgg Tryd.prog 47 = some false ∧ tZero Tryd.prog 47 = some (.slice none 0 0) ∧ tElem Tryd.prog 47 = some 9 ∧ tElemSize Tryd.prog 47 = some 1 ∧ tBytes Tryd.prog 47 = false := ⟨by kernel_rfl, by kernel_rfl, by kernel_rfl, by kernel_rfl, by kernel_rfl, by kernel_rfl, by kernel_rfl⟩
theorem ty67 : tKind Tryd.prog 67 = some (.slice) ∧ tSize Tryd.prog 67 = some 1 ∧ tAgg Tryd.prog 67 = some false ∧ tZero Tryd.prog 67 = some (.slice none 0 0) ∧ tElem Tryd.prog 67 = some 153 ∧ tElemSize Tryd.prog 67 = some 3 ∧ tBytes Tryd.prog 67 = false := ⟨by kernel_rfl, by kernel_rfl, by kernel_rfl, by kernel_rfl, by kernel_rfl, by kernel_rfl, by kernel_rfl⟩
theorem ty69 : tKind Tryd.prog 69 = some (.struct) ∧ tSize Tryd.prog 69 = some 3 ∧ tAgg Tryd.prog 69 = some true ∧ tZero Tryd.prog 69 = some (.agg #[.slice none 0 0, .slice none 0 0, .string ByteArray.empty]) ∧ tField Tryd.prog 69 0 = some (0, 29) ∧ tField Tryd.prog 69 1 = some (1, 67) ∧ tField Tryd.prog 69 2 = some (2, 9) ∧ tPlaces Tryd.prog 69 = some [(0, 1), (1, 1), (2, 1)] := ⟨by kernel_rfl, by kernel_rfl, by kernel_rfl, by kernel_rfl, by kernel_rfl, by kernel_rfl, by kernel_rfl, by kernel_rfl⟩
theorem ty71 : tKind Tryd.prog 71 = some (.slice) ∧ tSize Tryd.prog 71 = some 1 ∧ tAgg Tryd.prog 71 = some false ∧ tZero Tryd.prog 71 = some (.slice none 0 0) ∧ tElem Tryd.prog 71 = some 151 ∧ tElemSize Tryd.prog 71 = some 3 ∧ tBytes Tryd.prog 71 = false := ⟨by kernel_rfl, by kernel_rfl, by kernel_rfl, by kernel_rfl, by kernel_rfl, by kernel_rfl, by kernel_rfl⟩
theorem ty73 : tKind Tryd.prog 73 = some (.struct) ∧ tSize Tryd.prog 73 = some 3 ∧ tAgg Tryd.prog 73 = some true ∧ tZero Tryd.prog 73 = some (.agg #[.int .i64 0, .string ByteArray.empty, .slice none 0 0]) ∧ tField Tryd.prog 73 0 = some (0, 3) ∧ tField Tryd.prog 73 1 = some (1, 9) ∧ tField Tryd.prog 73 2 = some (2, 47) ∧ tPlaces Tryd.prog 73 = some [(0, 1), (1, 1), (2, 1)] := ⟨by kernel_rfl, by kernel_rfl, by kernel_rfl, by kernel_rfl, by kernel_rfl, by kernel_rfl, by kernel_rfl, by kernel_rfl⟩
theorem ty151 : tKind Tryd.prog 151 = some (.struct) ∧ tSize Tryd.prog 151 = some 3 ∧ tAgg Tryd.prog 151 = some true ∧ tZero Tryd.prog 151 = some (.agg #[.string ByteArray.empty, .bool false, .string ByteArray.empty]) ∧ tField Tryd.prog 151 0 = some (0, 9) ∧ tField Tryd.prog 151 1 = some (1, 4) ∧ tField Tryd.prog 151 2 = some (2, 9) ∧ tPlaces Tryd.prog 151 = some [(0, 1), (1, 1), (2, 1)] := ⟨by kernel_rfl, by kernel_rfl, by kernel_rfl, by kernel_rfl, by kernel_rfl, by kernel_rfl, by kernel_rfl, by kernel_rfl⟩
theorem ty153 : tKind Tryd.prog 153 = some (.struct) ∧ tSize Tryd.prog 153 = some 3 ∧ tAgg Tryd.prog 153 = some true ∧ tZero Tryd.prog 153 = some (.agg #[.string ByteArray.empty, .bool false, .string ByteArray.empty]) ∧ tField Tryd.prog 153 0 = some (0, 9) ∧ tField Tryd.prog 153 1 = some (1, 4) ∧ tField Tryd.prog 153 2 = some (2, 9) ∧ tPlaces Tryd.prog 153 = some [(0, 1), (1, 1), (2, 1)] := ⟨by kernel_rfl, by kernel_rfl, by kernel_rfl, by kernel_rfl, by kernel_rfl, by kernel_rfl, by kernel_rfl, by kernel_rfl⟩

variable {ro : Nat} {X : FuncId → List Value → AH → ARes → AH → Prop}
set_option maxRecDepth 10000
theorem seen_at {A : AH} {s : Sl} {l : List TSeen} {F : List Nat} (h : SlR A s l F) {i : Nat} (hi : i < l.length) : s.nl = false ∧ s.b < A.size ∧ i < s.len ∧
    rowK (s.o + i * 3) 3 (A.get s.b) = some [.string l[i].1, .bool l[i].2.1, .string l[i].2.2] ∧ l[i].1.size < 4611686018427387904 ∧ l[i].2.2.size < 4611686018427387904 := by
  obtain ⟨n1, b1, m1, i1, cs, Fi, c1, q1, _⟩ := h.row hi
  rw [aRow_eq] at c1
  obtain ⟨rfl, _, z1, z2⟩ := rep_Seen.1 q1
  exact ⟨n1, b1, i1, c1, big_lt z1, big_lt z2⟩
theorem zero_rep (A : AH) : Dat.rep A zeroRec [Sl.nil.v, Sl.nil.v, .string ⟨#[]⟩] [] := rep_Record.2 ⟨_, _, _, _, rfl, rfl, .nil rfl rfl rfl, .nil rfl rfl rfl, by show 0 < BIG; unfold BIG; omega⟩
theorem impl_a (A : AH) (hro : ro ≤ A.size) (hT : Tab 0 A) (s1 : Sl) (p : List TIns) (F1 : List Nat) (h1 : SlR A s1 p F1) (hp : p.length < 4294967296) (s : Sl) (m : List TSeen) (F : List Nat) (hs : SlR A s m F)
    (c : Int) (t : ByteArray) (s3 : Sl) (l3 : List ByteArray) (F3 : List Nat) (h3 : SlR A s3 l3 F3) (ht : t.size < 4611686018427387904) (w : Int) :
    ACalls Tryd.prog ro X 38 [.agg #[s1.v], s.v, .agg #[.int .i64 c, .string t, s3.v], .int .i64 w] A (fun r A' => ∃ cs G, r = .ret (.agg cs.toArray) ∧ Dat.rep A' (noteR p m (formR c t l3) w) cs G ∧ Fresh A G A' ∧ Ext A A') := by
  refine ACalls.enterQ (rs := [.cell 8 69]) Tryd.func38 rfl (by kernel_rfl) rfl ?_
  have hlen := hs.len
  simp (maxSteps := 2000000) (disch := first | omega | (simp only [AH.size_new, AH.size_put] <;> omega) | fail) only [amR Tryd.prog ro X, amS, seval, reduceCtorEq, ty3, ty4, ty9, ty27, ty29, ty47, ty67, ty69, ty71, ty73, ty151, ty153, hlen]
  refine (Form.implForm_a _ (by first | omega | (simp only [AH.size_new, AH.size_put] <;> omega)) c t s3 l3 F3 (h3.ext (by ((repeat' (first | exact Ext.refl _ | assumption | refine Ext.trans ?_ (Ext.new _ _) | refine Ext.put ?_ ?_ _ | refine Ext.trans ?_ (by assumption))) <;> (first | omega | (simp only [AH.size_new, AH.size_put] <;> omega))))) ht).mono ?_
  rintro r A1 ⟨rfl, hE1⟩
  have hf2 := formR_size c t l3
  generalize formR c t l3 = f at hf2 ⊢
  have v1 := hE1.size
  simp only [AH.size_new] at v1
  simp (maxSteps := 2000000) (disch := first | omega | (simp only [AH.size_new, AH.size_put] <;> omega) | fail) only [amR Tryd.prog ro X, amS, seval, reduceCtorEq, ty3, ty4, ty9, ty27, ty29, ty47, ty67, ty69, ty71, ty73, ty151, ty153, hlen, hE1.get]
  refine (Prog.implValid_a _ (by first | omega | (simp only [AH.size_new, AH.size_put] <;> omega)) (hT.ext (by ((repeat' (first | exact Ext.refl _ | assumption | refine Ext.trans ?_ (Ext.new _ _) | refine Ext.put ?_ ?_ _ | refine Ext.trans ?_ (by assumption))) <;> (first | omega | (simp only [AH.size_new, AH.size_put] <;> omega))))) s1 p F1 (h1.ext (by ((repeat' (first | exact Ext.refl _ | assumption | refine Ext.trans ?_ (Ext.new _ _) | refine Ext.put ?_ ?_ _ | refine Ext.trans ?_ (by assumption))) <;> (first | omega | (simp only [AH.size_new, AH.size_put] <;> omega)))))).mono ?_
  rintro r A2 ⟨rfl, hE2⟩
  have v2 := hE2.size
  by_cases k1 : ProgOk p
  · simp (maxSteps := 2000000) (disch := first | omega | (simp only [AH.size_new, AH.size_put] <;> omega) | fail) only [amR Tryd.prog ro X, amS, seval, reduceCtorEq, ty3, ty4, ty9, ty27, ty29, ty47, ty67, ty69, ty71, ty73, ty151, ty153, hlen, hE1.get, hE2.get, k1]
    refine (Sum.impl.isWidth_a _ w).mono ?_
    rintro r A2' ⟨rfl, rfl⟩
    by_cases k2 : isW w
    · by_cases k3 : (200 : Int) < m.length
      · simp (maxSteps := 2000000) (disch := first | omega | (simp only [AH.size_new, AH.size_put] <;> omega) | fail) only [amR Tryd.prog ro X, amS, seval, reduceCtorEq, ty3, ty4, ty9, ty27, ty29, ty47, ty67, ty69, ty71, ty73, ty151, ty153, hlen, hE1.get, hE2.get, k1, k2, k3]
        exact ⟨_, _, rfl, by rw [noteR_bad (.inr (.inr (.inl (by omega))))]; exact zero_rep _, Fresh.nil _ _, (by ((repeat' (first | exact Ext.refl _ | assumption | refine Ext.trans ?_ (Ext.new _ _) | refine Ext.put ?_ ?_ _ | refine Ext.trans ?_ (by assumption))) <;> (first | omega | (simp only [AH.size_new, AH.size_put] <;> omega))))⟩
      by_cases k4 : f = ⟨#[]⟩
      · simp (maxSteps := 2000000) (disch := first | omega | (simp only [AH.size_new, AH.size_put] <;> omega) | fail) only [amR Tryd.prog ro X, amS, seval, reduceCtorEq, ty3, ty4, ty9, ty27, ty29, ty47, ty67, ty69, ty71, ty73, ty151, ty153, hlen, hE1.get, hE2.get, k1, k2, k3, k4]
        exact ⟨_, _, rfl, by rw [noteR_bad (.inr (.inr (.inr rfl)))]; exact zero_rep _, Fresh.nil _ _, (by ((repeat' (first | exact Ext.refl _ | assumption | refine Ext.trans ?_ (Ext.new _ _) | refine Ext.put ?_ ?_ _ | refine Ext.trans ?_ (by assumption))) <;> (first | omega | (simp only [AH.size_new, AH.size_put] <;> omega))))⟩
      simp (maxSteps := 2000000) (disch := first | omega | (simp only [AH.size_new, AH.size_put] <;> omega) | fail) only [amR Tryd.prog ro X, amS, seval, reduceCtorEq, ty3, ty4, ty9, ty27, ty29, ty47, ty67, ty69, ty71, ty73, ty151, ty153, hlen, hE1.get, hE2.get, k1, k2, k3, k4]
      have hnb : ¬ noteBad p m f w := by
        rintro (h | h | h | h)
        · exact h k1
        · exact h k2
        · omega
        · exact k4 h
      refine (Copy.impl.copyProgram_a _ (by first | omega | (simp only [AH.size_new, AH.size_put] <;> omega)) s1 p F1 (h1.ext (by ((repeat' (first | exact Ext.refl _ | assumption | refine Ext.trans ?_ (Ext.new _ _) | refine Ext.put ?_ ?_ _ | refine Ext.trans ?_ (by assumption))) <;> (first | omega | (simp only [AH.size_new, AH.size_put] <;> omega))))) hp).mono ?_
      rintro r A3 ⟨t1, G1, rfl, q1, fr1, hE3⟩
      have v3 := hE3.size
      simp (maxSteps := 2000000) (disch := first | omega | (simp only [AH.size_new, AH.size_put] <;> omega) | fail) only [amR Tryd.prog ro X, amS, seval, reduceCtorEq, ty3, ty4, ty9, ty27, ty29, ty47, ty67, ty69, ty71, ty73, ty151, ty153]
      refine (Sum.impl_a _ (by first | omega | (simp only [AH.size_new, AH.size_put] <;> omega)) f w (by omega)).mono ?_
      rintro r A4 ⟨rfl, hE4⟩
      have v4 := hE4.size
      have u8 := hE1.get (A.size + 1 + 1) (by first | omega | (simp only [AH.size_new, AH.size_put] <;> omega))
      simp (maxSteps := 2000000) (disch := first | omega | (simp only [AH.size_new, AH.size_put] <;> omega) | fail) only [amR Tryd.prog ro X, amS, seval, reduceCtorEq, ty3, ty4, ty9, ty27, ty29, ty47, ty67, ty69, ty71, ty73, ty151, ty153, hlen]
      generalize hA5 : (A4.new _).put A4.size _ = A5
      have hE5 : Ext A4 A5 := by rw [← hA5]; exact (by ((repeat' (first | exact Ext.refl _ | assumption | refine Ext.trans ?_ (Ext.new _ _) | refine Ext.put ?_ ?_ _ | refine Ext.trans ?_ (by assumption))) <;> (first | omega | (simp only [AH.size_new, AH.size_put] <;> omega))))
      have z5 : A5.size = A4.size + 1 := by rw [← hA5]; rfl
      have g8 : A5.get (A.size + 1 + 1) = .cells [Sl.nil.v, Sl.nil.v, .string .empty] 3 := by
        rw [hE5.get _ (by omega), hE4.get _ (by omega), hE3.get _ (by omega), hE2.get _ (by omega)]
        simp (maxSteps := 2000000) (disch := first | omega | (simp only [AH.size_new, AH.size_put] <;> omega) | fail) only [amV, amH, amQ, amL, amN Tryd.prog, amS, seval, reduceCtorEq, ty3, ty4, ty9, ty27, ty29, ty47, ty67, ty69, ty71, ty73, ty151, ty153, u8]
      have g10 : A5.get A4.size = .cells [t1.v, Sl.nil.v, .string (sumS f w)] 3 := by rw [← hA5]; exact AH.get_put_self _ _ _
      have hEA : Ext A A5 := (by ((repeat' (first | exact Ext.refl _ | assumption | refine Ext.trans ?_ (Ext.new _ _) | refine Ext.put ?_ ?_ _ | refine Ext.trans ?_ (by assumption))) <;> (first | omega | (simp only [AH.size_new, AH.size_put] <;> omega))))
      refine Wp.loopC (fun n e A' => ExtX [A4.size] A5 A' ∧ e 3 = .int .i64 w ∧ e 8 = .pointer (some ⟨A.size + 1 + 1, 0, none⟩) ∧ e 10 = .pointer (some ⟨A4.size, 0, none⟩) ∧ e 39 = s.v ∧ e 40 = .int .i64 m.length ∧ ∃ i : Nat, i ≤ m.length ∧ n = m.length - i ∧ e 41 = .int .i64 i ∧ (∀ x ∈ m.take i, NameOk x.1) ∧
        ∃ s2, Acc A5.size A' s2 ((m.take i).map (glanceOf w)) [] ∧ A'.get A4.size = .cells [t1.v, s2.v, .string (sumS f w)] 3) (m.length - 0) ?_ ?_
      · simp (maxSteps := 2000000) (disch := first | omega | (simp only [AH.size_new, AH.size_put] <;> omega) | fail) only [amV, amH, amQ, amL, amN Tryd.prog, amS, seval, reduceCtorEq, ty3, ty4, ty9, ty27, ty29, ty47, ty67, ty69, ty71, ty73, ty151, ty153, hlen]
        exact ⟨ExtX.refl _ _, 0, by omega, rfl, rfl, by simp, Sl.nil, .nil, g10⟩
      · rintro n e A' ⟨hX, e3, e8, e10, e39, e40, i, hi, rfl, e41, hall, s2, hacc, gA⟩
        have hz := hX.size
        have gB := (hX.get (A.size + 1 + 1) (by omega) (by simp; omega)).trans g8
        have hsA : SlR A' s m F := (hs.ext hEA).extx hX (fun b hb => by have := hs.bound b hb; simp; omega)
        have hEA' : Ext A A' := ⟨by omega, fun b hb => (hX.get b (by omega) (by simp; omega)).trans (hEA.get b hb)⟩
        simp (maxSteps := 2000000) (disch := first | omega | (simp only [AH.size_new, AH.size_put] <;> omega) | fail) only [amR Tryd.prog ro X, amS, seval, reduceCtorEq, ty3, ty4, ty9, ty27, ty29, ty47, ty67, ty69, ty71, ty73, ty151, ty153, e40, e41]
        refine CondB.split (fun h => ?_) (fun h => ?_)
        · have hil : i < m.length := by simpa using h
          obtain ⟨n1, b1, i1, r1, q1', q2'⟩ := seen_at hsA hil
          simp (maxSteps := 2000000) (disch := first | omega | (simp only [AH.size_new, AH.size_put] <;> omega) | fail) only [amR Tryd.prog ro X, amS, seval, reduceCtorEq, ty3, ty4, ty9, ty27, ty29, ty47, ty67, ty69, ty71, ty73, ty151, ty153, e39, e40, e41, hlen, n1, r1]
          refine (Store.impl.isName_a _ m[i].1).mono ?_
          rintro r A6 ⟨rfl, rfl⟩
          by_cases k5 : NameOk m[i].1
          · simp (maxSteps := 2000000) (disch := first | omega | (simp only [AH.size_new, AH.size_put] <;> omega) | fail) only [amR Tryd.prog ro X, amS, seval, reduceCtorEq, ty3, ty4, ty9, ty27, ty29, ty47, ty67, ty69, ty71, ty73, ty151, ty153, e3, e8, e10, e39, e40, e41, k5]
            refine WpH (A'.size + 1) [9] (by kernel_rfl) (.inl (by kernel_rfl)) ?_
            simp (maxSteps := 2000000) (disch := first | omega | (simp only [AH.size_new, AH.size_put] <;> omega) | fail) only [amX Tryd.prog ro X, amR Tryd.prog ro X, amS, seval, reduceCtorEq, ty3, ty4, ty9, ty27, ty29, ty47, ty67, ty69, ty71, ty73, ty151, ty153, e3, e8, e10, e39, e40, e41, gA]
            refine (Sum.impl_a _ (by first | omega | (simp only [AH.size_new, AH.size_put] <;> omega)) m[i].2.2 w q2').mono ?_
            rintro r A7 ⟨rfl, hE7⟩
            have hE7' : Ext A' A7 := (by ((repeat' (first | exact Ext.refl _ | assumption | refine Ext.trans ?_ (Ext.new _ _) | refine Ext.put ?_ ?_ _ | refine Ext.trans ?_ (by assumption))) <;> (first | omega | (simp only [AH.size_new, AH.size_put] <;> omega))))
            have v7 := hE7.size
            simp only [AH.size_new, AH.size_put] at v7
            have hsz := sumS_le m[i].2.2 w
            obtain ⟨s', A8, hap, hs', hg, hz8, _⟩ := (hacc.ext hE7').lit (P := Tryd.prog) (ro := ro) (t := 67) (n := 1) (vs := [.string m[i].1, .bool m[i].2.1, .string (sumS m[i].2.2 w)]) (xs := [glanceOf w m[i]]) (by omega) (by simp only [ty67]; rfl) rfl (Reps.one (rep_Glance.2 ⟨rfl, rfl, by show m[i].1.size < _; unfold BIG; omega, by show (sumS m[i].2.2 w).size < _; unfold BIG; omega⟩)) (.inr (by simp)) (by simp; omega) (by omega)
            rw [show Dat.w TGlance = 3 from rfl] at hap
            have gA8 := (hg.get A4.size (by omega) (.inl (by omega))).trans ((hE7'.get A4.size (by omega)).trans gA)
            simp (maxSteps := 2000000) (disch := first | omega | (simp only [AH.size_new, AH.size_put] <;> omega) | fail) only [amX Tryd.prog ro X, amR Tryd.prog ro X, amS, seval, reduceCtorEq, ty3, ty4, ty9, ty27, ty29, ty47, ty67, ty69, ty71, ty73, ty151, ty153, e3, e8, e10, e39, e40, e41, hap, gA8]
            refine ⟨fun b hb => hE7.get b (by first | omega | (simp only [AH.size_new, AH.size_put] <;> omega)), m.length - (i + 1), by omega, ⟨by simp only [AH.size_put]; omega, fun b hb hn => (AH.get_put_other (by simpa using hn)).trans ((hg.get b (by omega) (.inl hb)).trans ((hE7'.get b (by omega)).trans (hX.get b hb hn)))⟩, i + 1, by omega, rfl, by simp, (all_take_succ hil).2 ⟨hall, k5⟩, s', ?_, rfl⟩
            rw [List.take_succ_eq_append_getElem hil, List.map_append]
            exact hs'.frame (Nat.le_refl _) (fun x hx h => AH.get_put_other (by rcases h with h | h; omega; simp at h))
          · simp (maxSteps := 2000000) (disch := first | omega | (simp only [AH.size_new, AH.size_put] <;> omega) | fail) only [amR Tryd.prog ro X, amS, seval, reduceCtorEq, ty3, ty4, ty9, ty27, ty29, ty47, ty67, ty69, ty71, ty73, ty151, ty153, e3, e8, e10, e39, e40, e41, k5, gB]
            exact ⟨_, _, rfl, by rw [noteR_no hil k5]; exact zero_rep _, Fresh.nil _ _, (by ((repeat' (first | exact Ext.refl _ | assumption | refine Ext.trans ?_ (Ext.new _ _) | refine Ext.put ?_ ?_ _ | refine Ext.trans ?_ (by assumption))) <;> (first | omega | (simp only [AH.size_new, AH.size_put] <;> omega))))⟩
        · have hil : i = m.length := by simp at h; omega
          subst hil
          simp (maxSteps := 2000000) (disch := first | omega | (simp only [AH.size_new, AH.size_put] <;> omega) | fail) only [amR Tryd.prog ro X, amS, seval, reduceCtorEq, ty3, ty4, ty9, ty27, ty29, ty47, ty67, ty69, ty71, ty73, ty151, ty153, e3, e8, e10, e39, e40, e41, gA, gB]
          rw [List.take_length] at hall hacc
          obtain ⟨F2, hF2, fr2⟩ := hacc.fresh (Fresh.nil A5 A')
          have hsz := sumS_le f w
          refine ⟨_, G1 ++ F2, rfl, ?_, ?_, (by ((repeat' (first | exact Ext.refl _ | assumption | refine Ext.trans ?_ (Ext.new _ _) | refine Ext.put ?_ ?_ _ | refine Ext.trans ?_ (by assumption))) <;> (first | omega | (simp only [AH.size_new, AH.size_put] <;> omega))))⟩
          · rw [noteR_ok hnb hall]
            refine rep_Record.2 ⟨t1, s2, G1, F2, rfl, rfl, ?_, ?_, by show (sumS f w).size < _; unfold BIG; omega⟩
            · refine (((q1.ext hE4).ext hE5).extx hX (fun b hb => by have := fr1.hi b hb; simp; omega)).extx ((ExtX.refl [A.size + 1 + 1] A').put (by simp) _) (fun b hb => by have := fr1.lo b hb; simp; omega)
            · exact hF2.extx ((ExtX.refl [A.size + 1 + 1] A').put (by simp) _) (fun b hb => by have := fr2.lo b hb; simp; omega)
          · exact (fr1.append (fr2.mono (by omega) (Nat.le_refl _)) (by omega) (by omega)).mono (by omega) (by first | omega | (simp only [AH.size_new, AH.size_put] <;> omega))
    · simp (maxSteps := 2000000) (disch := first | omega | (simp only [AH.size_new, AH.size_put] <;> omega) | fail) only [amR Tryd.prog ro X, amS, seval, reduceCtorEq, ty3, ty4, ty9, ty27, ty29, ty47, ty67, ty69, ty71, ty73, ty151, ty153, hlen, hE1.get, hE2.get, k1, k2]
      exact ⟨_, _, rfl, by rw [noteR_bad (.inr (.inl k2))]; exact zero_rep _, Fresh.nil _ _, (by ((repeat' (first | exact Ext.refl _ | assumption | refine Ext.trans ?_ (Ext.new _ _) | refine Ext.put ?_ ?_ _ | refine Ext.trans ?_ (by assumption))) <;> (first | omega | (simp only [AH.size_new, AH.size_put] <;> omega))))⟩
  · simp (maxSteps := 2000000) (disch := first | omega | (simp only [AH.size_new, AH.size_put] <;> omega) | fail) only [amR Tryd.prog ro X, amS, seval, reduceCtorEq, ty3, ty4, ty9, ty27, ty29, ty47, ty67, ty69, ty71, ty73, ty151, ty153, hlen, hE1.get, hE2.get, k1]
    exact ⟨_, _, rfl, by rw [noteR_bad (.inl k1)]; exact zero_rep _, Fresh.nil _ _, (by ((repeat' (first | exact Ext.refl _ | assumption | refine Ext.trans ?_ (Ext.new _ _) | refine Ext.put ?_ ?_ _ | refine Ext.trans ?_ (by assumption))) <;> (first | omega | (simp only [AH.size_new, AH.size_put] <;> omega))))⟩
theorem spec_a (A : AH) (hro : ro ≤ A.size) (s1 : Sl) (p : List TIns) (F1 : List Nat) (h1 : SlR A s1 p F1) (hp : p.length < 4294967296) (s : Sl) (m : List TSeen) (F : List Nat) (hs : SlR A s m F)
    (c : Int) (t : ByteArray) (s3 : Sl) (l3 : List ByteArray) (F3 : List Nat) (h3 : SlR A s3 l3 F3) (ht : t.size < 4611686018427387904) (w : Int) :
    ACalls Tryd.prog ro X 35 [.agg #[s1.v], s.v, .agg #[.int .i64 c, .string t, s3.v], .int .i64 w] A (fun r A' => ∃ cs G, r = .ret (.agg cs.toArray) ∧ Dat.rep A' (noteR p m (formR c t l3) w) cs G ∧ Fresh A G A' ∧ Ext A A') := by
  refine ACalls.enterQ (rs := [.cell 8 69]) Tryd.func35 rfl (by kernel_rfl) rfl ?_
  have hlen := hs.len
  simp (maxSteps := 2000000) (disch := first | omega | (simp only [AH.size_new, AH.size_put] <;> omega) | fail) only [amR Tryd.prog ro X, amS, seval, reduceCtorEq, ty3, ty4, ty9, ty27, ty29, ty47, ty67, ty69, ty71, ty73, ty151, ty153, hlen]
  refine (Form.specForm_a _ (by first | omega | (simp only [AH.size_new, AH.size_put] <;> omega)) c t s3 l3 F3 (h3.ext (by ((repeat' (first | exact Ext.refl _ | assumption | refine Ext.trans ?_ (Ext.new _ _) | refine Ext.put ?_ ?_ _ | refine Ext.trans ?_ (by assumption))) <;> (first | omega | (simp only [AH.size_new, AH.size_put] <;> omega))))) ht).mono ?_
  rintro r A1 ⟨rfl, hE1⟩
  have hf2 := formR_size c t l3
  generalize formR c t l3 = f at hf2 ⊢
  have v1 := hE1.size
  simp only [AH.size_new] at v1
  simp (maxSteps := 2000000) (disch := first | omega | (simp only [AH.size_new, AH.size_put] <;> omega) | fail) only [amR Tryd.prog ro X, amS, seval, reduceCtorEq, ty3, ty4, ty9, ty27, ty29, ty47, ty67, ty69, ty71, ty73, ty151, ty153, hlen, hE1.get]
  refine (Prog.specValid_a _ (by first | omega | (simp only [AH.size_new, AH.size_put] <;> omega)) s1 p F1 (h1.ext (by ((repeat' (first | exact Ext.refl _ | assumption | refine Ext.trans ?_ (Ext.new _ _) | refine Ext.put ?_ ?_ _ | refine Ext.trans ?_ (by assumption))) <;> (first | omega | (simp only [AH.size_new, AH.size_put] <;> omega))))) (by omega)).mono ?_
  rintro r A2 ⟨rfl, hE2⟩
  have v2 := hE2.size
  by_cases k1 : ProgOk p
  · simp (maxSteps := 2000000) (disch := first | omega | (simp only [AH.size_new, AH.size_put] <;> omega) | fail) only [amR Tryd.prog ro X, amS, seval, reduceCtorEq, ty3, ty4, ty9, ty27, ty29, ty47, ty67, ty69, ty71, ty73, ty151, ty153, hlen, hE1.get, hE2.get, k1]
    refine (Sum.spec.l1Width_a _ w).mono ?_
    rintro r A2' ⟨rfl, rfl⟩
    by_cases k2 : isW w
    · by_cases k3 : (200 : Int) < m.length
      · simp (maxSteps := 2000000) (disch := first | omega | (simp only [AH.size_new, AH.size_put] <;> omega) | fail) only [amR Tryd.prog ro X, amS, seval, reduceCtorEq, ty3, ty4, ty9, ty27, ty29, ty47, ty67, ty69, ty71, ty73, ty151, ty153, hlen, hE1.get, hE2.get, k1, k2, k3]
        exact ⟨_, _, rfl, by rw [noteR_bad (.inr (.inr (.inl (by omega))))]; exact zero_rep _, Fresh.nil _ _, (by ((repeat' (first | exact Ext.refl _ | assumption | refine Ext.trans ?_ (Ext.new _ _) | refine Ext.put ?_ ?_ _ | refine Ext.trans ?_ (by assumption))) <;> (first | omega | (simp only [AH.size_new, AH.size_put] <;> omega))))⟩
      by_cases k4 : f = ⟨#[]⟩
      · simp (maxSteps := 2000000) (disch := first | omega | (simp only [AH.size_new, AH.size_put] <;> omega) | fail) only [amR Tryd.prog ro X, amS, seval, reduceCtorEq, ty3, ty4, ty9, ty27, ty29, ty47, ty67, ty69, ty71, ty73, ty151, ty153, hlen, hE1.get, hE2.get, k1, k2, k3, k4]
        exact ⟨_, _, rfl, by rw [noteR_bad (.inr (.inr (.inr rfl)))]; exact zero_rep _, Fresh.nil _ _, (by ((repeat' (first | exact Ext.refl _ | assumption | refine Ext.trans ?_ (Ext.new _ _) | refine Ext.put ?_ ?_ _ | refine Ext.trans ?_ (by assumption))) <;> (first | omega | (simp only [AH.size_new, AH.size_put] <;> omega))))⟩
      simp (maxSteps := 2000000) (disch := first | omega | (simp only [AH.size_new, AH.size_put] <;> omega) | fail) only [amR Tryd.prog ro X, amS, seval, reduceCtorEq, ty3, ty4, ty9, ty27, ty29, ty47, ty67, ty69, ty71, ty73, ty151, ty153, hlen, hE1.get, hE2.get, k1, k2, k3, k4]
      have hnb : ¬ noteBad p m f w := by
        rintro (h | h | h | h)
        · exact h k1
        · exact h k2
        · omega
        · exact k4 h
      refine (Copy.spec.l3Program_a _ (by first | omega | (simp only [AH.size_new, AH.size_put] <;> omega)) s1 p F1 (h1.ext (by ((repeat' (first | exact Ext.refl _ | assumption | refine Ext.trans ?_ (Ext.new _ _) | refine Ext.put ?_ ?_ _ | refine Ext.trans ?_ (by assumption))) <;> (first | omega | (simp only [AH.size_new, AH.size_put] <;> omega))))) hp).mono ?_
      rintro r A3 ⟨t1, G1, rfl, q1, fr1, hE3⟩
      have v3 := hE3.size
      simp (maxSteps := 2000000) (disch := first | omega | (simp only [AH.size_new, AH.size_put] <;> omega) | fail) only [amR Tryd.prog ro X, amS, seval, reduceCtorEq, ty3, ty4, ty9, ty27, ty29, ty47, ty67, ty69, ty71, ty73, ty151, ty153]
      refine (Sum.spec_a _ (by first | omega | (simp only [AH.size_new, AH.size_put] <;> omega)) f w (by omega)).mono ?_
      rintro r A4 ⟨rfl, hE4⟩
      have v4 := hE4.size
      have u8 := hE1.get (A.size + 1 + 1) (by first | omega | (simp only [AH.size_new, AH.size_put] <;> omega))
      simp (maxSteps := 2000000) (disch := first | omega | (simp only [AH.size_new, AH.size_put] <;> omega) | fail) only [amR Tryd.prog ro X, amS, seval, reduceCtorEq, ty3, ty4, ty9, ty27, ty29, ty47, ty67, ty69, ty71, ty73, ty151, ty153, hlen]
      generalize hA5 : (A4.new _).put A4.size _ = A5
      have hE5 : Ext A4 A5 := by rw [← hA5]; exact (by ((repeat' (first | exact Ext.refl _ | assumption | refine Ext.trans ?_ (Ext.new _ _) | refine Ext.put ?_ ?_ _ | refine Ext.trans ?_ (by assumption))) <;> (first | omega | (simp only [AH.size_new, AH.size_put] <;> omega))))
      have z5 : A5.size = A4.size + 1 := by rw [← hA5]; rfl
      have g8 : A5.get (A.size + 1 + 1) = .cells [Sl.nil.v, Sl.nil.v, .string .empty] 3 := by
        rw [hE5.get _ (by omega), hE4.get _ (by omega), hE3.get _ (by omega), hE2.get _ (by omega)]
        simp (maxSteps := 2000000) (disch := first | omega | (simp only [AH.size_new, AH.size_put] <;> omega) | fail) only [amV, amH, amQ, amL, amN Tryd.prog, amS, seval, reduceCtorEq, ty3, ty4, ty9, ty27, ty29, ty47, ty67, ty69, ty71, ty73, ty151, ty153, u8]
      have g10 : A5.get A4.size = .cells [t1.v, Sl.nil.v, .string (sumS f w)] 3 := by rw [← hA5]; exact AH.get_put_self _ _ _
      have hEA : Ext A A5 := (by ((repeat' (first | exact Ext.refl _ | assumption | refine Ext.trans ?_ (Ext.new _ _) | refine Ext.put ?_ ?_ _ | refine Ext.trans ?_ (by assumption))) <;> (first | omega | (simp only [AH.size_new, AH.size_put] <;> omega))))
      refine Wp.loopC (fun n e A' => ExtX [A4.size] A5 A' ∧ e 3 = .int .i64 w ∧ e 8 = .pointer (some ⟨A.size + 1 + 1, 0, none⟩) ∧ e 10 = .pointer (some ⟨A4.size, 0, none⟩) ∧ e 1 = s.v ∧ ∃ i : Nat, i ≤ m.length ∧ n = m.length - i ∧ e 11 = .int .i64 i ∧ (∀ x ∈ m.take i, NameOk x.1) ∧
        ∃ s2, Acc A5.size A' s2 ((m.take i).map (glanceOf w)) [] ∧ A'.get A4.size = .cells [t1.v, s2.v, .string (sumS f w)] 3) (m.length - 0) ?_ ?_
      · simp (maxSteps := 2000000) (disch := first | omega | (simp only [AH.size_new, AH.size_put] <;> omega) | fail) only [amV, amH, amQ, amL, amN Tryd.prog, amS, seval, reduceCtorEq, ty3, ty4, ty9, ty27, ty29, ty47, ty67, ty69, ty71, ty73, ty151, ty153, hlen]
        exact ⟨ExtX.refl _ _, 0, by omega, rfl, rfl, by simp, Sl.nil, .nil, g10⟩
      · rintro n e A' ⟨hX, e3, e8, e10, e1, i, hi, rfl, e11, hall, s2, hacc, gA⟩
        have hz := hX.size
        have gB := (hX.get (A.size + 1 + 1) (by omega) (by simp; omega)).trans g8
        have hsA : SlR A' s m F := (hs.ext hEA).extx hX (fun b hb => by have := hs.bound b hb; simp; omega)
        have hEA' : Ext A A' := ⟨by omega, fun b hb => (hX.get b (by omega) (by simp; omega)).trans (hEA.get b hb)⟩
        simp (maxSteps := 2000000) (disch := first | omega | (simp only [AH.size_new, AH.size_put] <;> omega) | fail) only [amR Tryd.prog ro X, amS, seval, reduceCtorEq, ty3, ty4, ty9, ty27, ty29, ty47, ty67, ty69, ty71, ty73, ty151, ty153, e1, e11, hlen]
        refine CondB.split (fun h => ?_) (fun h => ?_)
        · have hil : i < m.length := by simpa using h
          obtain ⟨n1, b1, i1, r1, q1', q2'⟩ := seen_at hsA hil
          obtain ⟨f1, f2, f3⟩ := row3 r1
          simp (maxSteps := 2000000) (disch := first | omega | (simp only [AH.size_new, AH.size_put] <;> omega) | fail) only [amR Tryd.prog ro X, amS, seval, reduceCtorEq, ty3, ty4, ty9, ty27, ty29, ty47, ty67, ty69, ty71, ty73, ty151, ty153, e1, e11, hlen, n1, f1]
          refine (Store.spec.l2NameOk_a _ m[i].1).mono ?_
          rintro r A6 ⟨rfl, e6⟩
          obtain rfl : A' = A6 := e6.symm
          by_cases k5 : NameOk m[i].1
          · simp (maxSteps := 2000000) (disch := first | omega | (simp only [AH.size_new, AH.size_put] <;> omega) | fail) only [amR Tryd.prog ro X, amS, seval, reduceCtorEq, ty3, ty4, ty9, ty27, ty29, ty47, ty67, ty69, ty71, ty73, ty151, ty153, e3, e8, e10, e1, e11, k5]
            refine WpH (A'.size) [18] (by kernel_rfl) (.inl (by kernel_rfl)) ?_
            simp (maxSteps := 2000000) (disch := first | omega | (simp only [AH.size_new, AH.size_put] <;> omega) | fail) only [amX Tryd.prog ro X, amR Tryd.prog ro X, amS, seval, reduceCtorEq, ty3, ty4, ty9, ty27, ty29, ty47, ty67, ty69, ty71, ty73, ty151, ty153, e3, e8, e10, e1, e11, gA, n1, f1, f2, f3, hlen]
            refine (Sum.spec_a _ (by first | omega | (simp only [AH.size_new, AH.size_put] <;> omega)) m[i].2.2 w q2').mono ?_
            rintro r A7 ⟨rfl, hE7⟩
            have hE7' : Ext A' A7 := (by ((repeat' (first | exact Ext.refl _ | assumption | refine Ext.trans ?_ (Ext.new _ _) | refine Ext.put ?_ ?_ _ | refine Ext.trans ?_ (by assumption))) <;> (first | omega | (simp only [AH.size_new, AH.size_put] <;> omega))))
            have v7 := hE7.size
            have hsz := sumS_le m[i].2.2 w
            obtain ⟨s', A8, hap, hs', hg, hz8, _⟩ := (hacc.ext hE7').lit (P := Tryd.prog) (ro := ro) (t := 67) (n := 1) (vs := [.string m[i].1, .bool m[i].2.1, .string (sumS m[i].2.2 w)]) (xs := [glanceOf w m[i]]) (by omega) (by simp only [ty67]; rfl) rfl (Reps.one (rep_Glance.2 ⟨rfl, rfl, by show m[i].1.size < _; unfold BIG; omega, by show (sumS m[i].2.2 w).size < _; unfold BIG; omega⟩)) (.inr (by simp)) (by simp; omega) (by omega)
            rw [show Dat.w TGlance = 3 from rfl] at hap
            have gA8 := (hg.get A4.size (by omega) (.inl (by omega))).trans ((hE7'.get A4.size (by omega)).trans gA)
            simp (maxSteps := 2000000) (disch := first | omega | (simp only [AH.size_new, AH.size_put] <;> omega) | fail) only [amX Tryd.prog ro X, amR Tryd.prog ro X, amS, seval, reduceCtorEq, ty3, ty4, ty9, ty27, ty29, ty47, ty67, ty69, ty71, ty73, ty151, ty153, e3, e8, e10, e1, e11, hap, gA8]
            refine ⟨fun b hb => hE7.get b (by omega), m.length - (i + 1), by omega, ⟨by simp only [AH.size_put]; omega, fun b hb hn => (AH.get_put_other (by simpa using hn)).trans ((hg.get b (by omega) (.inl hb)).trans ((hE7'.get b (by omega)).trans (hX.get b hb hn)))⟩, i + 1, by omega, rfl, by simp, (all_take_succ hil).2 ⟨hall, k5⟩, s', ?_, rfl⟩
            rw [List.take_succ_eq_append_getElem hil, List.map_append]
            exact hs'.frame (Nat.le_refl _) (fun x hx h => AH.get_put_other (by rcases h with h | h; omega; simp at h))
          · simp (maxSteps := 2000000) (disch := first | omega | (simp only [AH.size_new, AH.size_put] <;> omega) | fail) only [amR Tryd.prog ro X, amS, seval, reduceCtorEq, ty3, ty4, ty9, ty27, ty29, ty47, ty67, ty69, ty71, ty73, ty151, ty153, e3, e8, e10, e1, e11, k5, gB]
            exact ⟨_, _, rfl, by rw [noteR_no hil k5]; exact zero_rep _, Fresh.nil _ _, (by ((repeat' (first | exact Ext.refl _ | assumption | refine Ext.trans ?_ (Ext.new _ _) | refine Ext.put ?_ ?_ _ | refine Ext.trans ?_ (by assumption))) <;> (first | omega | (simp only [AH.size_new, AH.size_put] <;> omega))))⟩
        · have hil : i = m.length := by simp at h; omega
          subst hil
          simp (maxSteps := 2000000) (disch := first | omega | (simp only [AH.size_new, AH.size_put] <;> omega) | fail) only [amR Tryd.prog ro X, amS, seval, reduceCtorEq, ty3, ty4, ty9, ty27, ty29, ty47, ty67, ty69, ty71, ty73, ty151, ty153, e3, e8, e10, e1, e11, gA, gB]
          rw [List.take_length] at hall hacc
          obtain ⟨F2, hF2, fr2⟩ := hacc.fresh (Fresh.nil A5 A')
          have hsz := sumS_le f w
          refine ⟨_, G1 ++ F2, rfl, ?_, ?_, (by ((repeat' (first | exact Ext.refl _ | assumption | refine Ext.trans ?_ (Ext.new _ _) | refine Ext.put ?_ ?_ _ | refine Ext.trans ?_ (by assumption))) <;> (first | omega | (simp only [AH.size_new, AH.size_put] <;> omega))))⟩
          · rw [noteR_ok hnb hall]
            refine rep_Record.2 ⟨t1, s2, G1, F2, rfl, rfl, ?_, ?_, by show (sumS f w).size < _; unfold BIG; omega⟩
            · refine (((q1.ext hE4).ext hE5).extx hX (fun b hb => by have := fr1.hi b hb; simp; omega)).extx ((ExtX.refl [A.size + 1 + 1] A').put (by simp) _) (fun b hb => by have := fr1.lo b hb; simp; omega)
            · exact hF2.extx ((ExtX.refl [A.size + 1 + 1] A').put (by simp) _) (fun b hb => by have := fr2.lo b hb; simp; omega)
          · exact (fr1.append (fr2.mono (by omega) (Nat.le_refl _)) (by omega) (by omega)).mono (by omega) (by first | omega | (simp only [AH.size_new, AH.size_put] <;> omega))
    · simp (maxSteps := 2000000) (disch := first | omega | (simp only [AH.size_new, AH.size_put] <;> omega) | fail) only [amR Tryd.prog ro X, amS, seval, reduceCtorEq, ty3, ty4, ty9, ty27, ty29, ty47, ty67, ty69, ty71, ty73, ty151, ty153, hlen, hE1.get, hE2.get, k1, k2]
      exact ⟨_, _, rfl, by rw [noteR_bad (.inr (.inl k2))]; exact zero_rep _, Fresh.nil _ _, (by ((repeat' (first | exact Ext.refl _ | assumption | refine Ext.trans ?_ (Ext.new _ _) | refine Ext.put ?_ ?_ _ | refine Ext.trans ?_ (by assumption))) <;> (first | omega | (simp only [AH.size_new, AH.size_put] <;> omega))))⟩
  · simp (maxSteps := 2000000) (disch := first | omega | (simp only [AH.size_new, AH.size_put] <;> omega) | fail) only [amR Tryd.prog ro X, amS, seval, reduceCtorEq, ty3, ty4, ty9, ty27, ty29, ty47, ty67, ty69, ty71, ty73, ty151, ty153, hlen, hE1.get, hE2.get, k1]
    exact ⟨_, _, rfl, by rw [noteR_bad (.inl k1)]; exact zero_rep _, Fresh.nil _ _, (by ((repeat' (first | exact Ext.refl _ | assumption | refine Ext.trans ?_ (Ext.new _ _) | refine Ext.put ?_ ?_ _ | refine Ext.trans ?_ (by assumption))) <;> (first | omega | (simp only [AH.size_new, AH.size_put] <;> omega))))⟩
end Go.Proofs.YtcdnlghlbljopaaDoor.Amu.Note
