/- Spaces without what lies under a name; Drop. -/
import Derived.Test.YtcdnlghlbljopaaDoorAmDrop
import Derived.Test.YtcdnlghlbljopaaDoorAmuCopy
import Derived.Test.YtcdnlghlbljopaaDoorAmuStore
import Derived.Test.YtcdnlghlbljopaaDoorAmuSpace
import Derived.Test.YtcdnlghlbljopaaDoorAmuSpace2
namespace Go.Proofs.YtcdnlghlbljopaaDoor.Amu.Drop
open Go Go.AM Go.Proofs
set_option linter.unusedVariables false
set_option linter.unusedSimpArgs false
theorem ty3 : tKind Tryd.prog 3 = some (.int .i64) ∧ tSize Tryd.prog 3 = some 1 ∧ tAgg Tryd.prog 3 = some false ∧ tZero Tryd.prog 3 = some (.int .i64 0) := ⟨by kernel_rfl, by kernel_rfl, by kernel_rfl, by kernel_rfl⟩
theorem ty4 : tKind Tryd.prog 4 = some (.bool) ∧ tSize Tryd.prog 4 = some 1 ∧ tAgg Tryd.prog 4 = some false ∧ tZero Tryd.prog 4 = some (.bool false) := ⟨by kernel_rfl, by kernel_rfl, by kernel_rfl, by kernel_rfl⟩
theorem ty9 : tKind Tryd.prog 9 = some (.str) ∧ tSize Tryd.prog 9 = some 1 ∧ tAgg Tryd.prog 9 = some false ∧ tZero Tryd.prog 9 = some (.string ByteArray.empty) := ⟨by kernel_rfl, by kernel_rfl, by kernel_rfl, by kernel_rfl⟩
theorem ty27 : tKind Tryd.prog 27 = some (.slice) ∧ tSize Tryd.prog 27 = some 1 ∧ tAgg Tryd.prog 27 = some false ∧ tZero Tryd.prog 27 = some (.slice none 0 0) ∧ tElem Tryd.prog 27 = some 109 ∧ tElemSize Tryd.prog 27 = some 3 ∧ tBytes Tryd.prog 27 = false := ⟨by kernel_rfl, by kernel_rfl, by kernel_rfl, by kernel_rfl, by kernel_rfl, by kernel_rfl, by kernel_rfl⟩
theorem ty29 : tKind Tryd.prog 29 = some (.struct) ∧ tSize Tryd.prog 29 = some 1 ∧ tAgg Tryd.prog 29 = some true ∧ tZero Tryd.prog 29 = some (.agg #[.slice none 0 0]) ∧ tField Tryd.prog 29 0 = some (0, 27) ∧ tPlaces Tryd.prog 29 = some [(0, 1)] := ⟨by kernel_rfl, by kernel_rfl, by kernel_rfl, by kernel_rfl, by kernel_rfl, by kernel_rfl⟩
theorem ty39 : tKind Tryd.prog 39 = some (.slice) ∧ tSize Tryd.prog 39 = some 1 ∧ tAgg Tryd.prog 39 = some false ∧ tZero Tryd.prog 39 = some (.slice none 0 0) ∧ tElem Tryd.prog 39 = some 116 ∧ tElemSize Tryd.prog 39 = some 2 ∧ tBytes Tryd.prog 39 = false := ⟨by kernel_rfl, by kernel_rfl, by kernel_rfl, by kernel_rfl, by kernel_rfl, by kernel_rfl, by kernel_rfl⟩
theorem ty40 : tKind Tryd.prog 40 = some (.slice) ∧ tSize Tryd.prog 40 = some 1 ∧ tAgg Tryd.prog 40 = some false ∧ tZero Tryd.prog 40 = some (.slice none 0 0) ∧ tElem Tryd.prog 40 = some 118 ∧ tElemSize Tryd.prog 40 = some 2 ∧ tBytes Tryd.prog 40 = false := ⟨by kernel_rfl, by kernel_rfl, by kernel_rfl, by kernel_rfl, by kernel_rfl, by kernel_rfl, by kernel_rfl⟩
theorem ty42 : tKind Tryd.prog 42 = some (.struct) ∧ tSize Tryd.prog 42 = some 2 ∧ tAgg Tryd.prog 42 = some true ∧ tZero Tryd.prog 42 = some (.agg #[.slice none 0 0, .slice none 0 0]) ∧ tField Tryd.prog 42 0 = some (0, 39) ∧ tField Tryd.prog 42 1 = some (1, 40) ∧ tPlaces Tryd.prog 42 = some [(0, 1), (1, 1)] := ⟨by kernel_rfl, by kernel_rfl, by kernel_rfl, by kernel_rfl, by kernel_rfl, by kernel_rfl, by kernel_rfl⟩
theorem ty116 : tKind Tryd.prog 116 = some (.struct) ∧ tSize Tryd.prog 116 = some 2 ∧ tAgg Tryd.prog 116 = some true ∧ tZero Tryd.prog 116 = some (.agg #[.string ByteArray.empty, .string ByteArray.empty]) ∧ tField Tryd.prog 116 0 = some (0, 9) ∧ tField Tryd.prog 116 1 = some (1, 9) ∧ tPlaces Tryd.prog 116 = some [(0, 1), (1, 1)] := ⟨by kernel_rfl, by kernel_rfl, by kernel_rfl, by kernel_rfl, by kernel_rfl, by kernel_rfl, by kernel_rfl⟩
theorem ty118 : tKind Tryd.prog 118 = some (.struct) ∧ tSize Tryd.prog 118 = some 2 ∧ tAgg Tryd.prog 118 = some true ∧ tZero Tryd.prog 118 = some (.agg #[.string ByteArray.empty, .slice none 0 0]) ∧ tField Tryd.prog 118 0 = some (0, 9) ∧ tField Tryd.prog 118 1 = some (1, 29) ∧ tPlaces Tryd.prog 118 = some [(0, 1), (1, 1)] := ⟨by kernel_rfl, by kernel_rfl, by kernel_rfl, by kernel_rfl, by kernel_rfl, by kernel_rfl, by kernel_rfl⟩

variable {ro : Nat} {X : FuncId → List Value → AH → ARes → AH → Prop}
set_option maxRecDepth 10000
theorem without_a (A : AH) (hro : ro ≤ A.size) (s1 s2 : Sl) (x : TSpace) (F1 F2 : List Nat) (h1 : SlR A s1 x.1 F1) (h2 : SlR A s2 x.2 F2) (hl1' : x.1.length < 4294967296) (hl2' : x.2.length < 4294967296) (hp : ∀ t ∈ x.2, t.2.length < 4294967296) (n : ByteArray) :
    ACalls Tryd.prog ro X 115 [.agg #[s1.v, s2.v], .string n] A (fun r A' => ∃ t1 t2 G1 G2, r = .ret (.agg #[t1.v, t2.v]) ∧ SlR A' t1 (wo n x.1) G1 ∧ SlR A' t2 (wo n x.2) G2 ∧ Fresh A (G1 ++ G2) A' ∧ Ext A A') := by
  refine ACalls.enterQ (rs := [.cell 4 42]) Tryd.func115 rfl (by kernel_rfl) rfl ?_
  have hl1 := h1.len
  have hl2 := h2.len
  simp (maxSteps := 2000000) (disch := first | omega | (simp only [AH.size_new, AH.size_put] <;> omega) | fail) only [amR Tryd.prog ro X, amS, seval, reduceCtorEq, ty3, ty9, ty27, ty29, ty39, ty40, ty42, ty116, ty118, hl1, hl2]
  generalize hA0 : ((A.new _).new _).new _ = A0
  have hz0 : A0.size = A.size + 3 := by rw [← hA0]; rfl
  have hE0 : Ext A A0 := by rw [← hA0]; exact (by ((repeat' (first | exact Ext.refl _ | assumption | refine Ext.trans ?_ (Ext.new _ _) | refine Ext.put ?_ ?_ _ | refine Ext.trans ?_ (by assumption))) <;> (first | omega | (simp only [AH.size_new, AH.size_put] <;> omega))))
  have go0 : A0.get (A.size + 2) = .cells [Sl.nil.v, Sl.nil.v] 2 := by rw [← hA0]; exact AH.get_new_self _ _
  have gr0 : A0.get (A.size + 1) = .cells [Sl.nil.v, Sl.nil.v] 2 := by rw [← hA0, AH.get_new_other (by simp only [AH.size_new]; omega)]; exact AH.get_new_self _ _
  have gb0 : A0.get A.size = .cells [s1.v, s2.v] 2 := by rw [← hA0, AH.get_new_other (by simp only [AH.size_new]; omega), AH.get_new_other (by simp only [AH.size_new]; omega)]; exact AH.get_new_self _ _
  refine Wp.loopC (fun k e A' => ExtX [A.size + 2] A0 A' ∧ e 1 = .string n ∧ e 2 = .pointer (some ⟨A.size, 0, none⟩) ∧ e 4 = .pointer (some ⟨A.size + 1, 0, none⟩) ∧ e 5 = .pointer (some ⟨A.size + 2, 0, none⟩) ∧ e 11 = s1.v ∧ e 12 = .int .i64 x.1.length ∧
    ∃ i : Nat, i ≤ x.1.length ∧ k = x.1.length - i ∧ e 13 = .int .i64 i ∧ ∃ s', Acc A0.size A' s' (wo n (x.1.take i)) [] ∧ A'.get (A.size + 2) = .cells [s'.v, Sl.nil.v] 2) (x.1.length - 0) ?_ ?_
  · simp (maxSteps := 2000000) (disch := first | omega | (simp only [AH.size_new, AH.size_put] <;> omega) | fail) only [amV, amH, amQ, amL, amN Tryd.prog, amS, seval, reduceCtorEq, ty3, ty9, ty27, ty29, ty39, ty40, ty42, ty116, ty118, hl1]
    exact ⟨ExtX.refl _ _, 0, by omega, rfl, rfl, Sl.nil, .nil, go0⟩
  · rintro k e A' ⟨hX, e1, e2, e4, e5, e11, e12, i, hi, rfl, e13, s', hacc, gO⟩
    have hz := hX.size
    have hs1 : SlR A' s1 x.1 F1 := (h1.ext hE0).extx hX (fun b hb => by have := h1.bound b hb; simp; omega)
    simp (maxSteps := 2000000) (disch := first | omega | (simp only [AH.size_new, AH.size_put] <;> omega) | fail) only [amR Tryd.prog ro X, amS, seval, reduceCtorEq, ty3, ty9, ty27, ty29, ty39, ty40, ty42, ty116, ty118, e12, e13]
    refine CondB.split (fun h => ?_) (fun h => ?_)
    · have hil : i < x.1.length := by simpa using h
      obtain ⟨c, n1, b1, i1, c1, r0, r1, rr, z1, z2⟩ := hs1.source hil
      have rr' : rowK (s1.o + i * 2) 2 (A'.get s1.b) = some [.string x.1[i].1, .string x.1[i].2] := by rw [c1]; exact rr
      have st := wo_take_succ n hil
      have hwl := wo_length n (x.1.take i)
      rw [List.length_take] at hwl
      by_cases hn : x.1[i].1 = n
      · simp (maxSteps := 2000000) (disch := first | omega | (simp only [AH.size_new, AH.size_put] <;> omega) | fail) only [amR Tryd.prog ro X, amS, seval, reduceCtorEq, ty3, ty9, ty27, ty29, ty39, ty40, ty42, ty116, ty118, e1, e2, e4, e5, e11, e12, e13, n1, rr', hn]
        rw [if_pos hn, List.append_nil] at st
        refine ⟨x.1.length - (i + 1), by omega, ⟨by simp only [AH.size_put, AH.size_new]; omega, fun b hb hm => ?_⟩, i + 1, by omega, rfl, by simp, s', ?_, ?_⟩
        · rw [AH.get_put_other (by omega), AH.get_new_other (by omega)]; exact hX.get b hb hm
        · rw [st]; exact hacc.ext (by ((repeat' (first | exact Ext.refl _ | assumption | refine Ext.trans ?_ (Ext.new _ _) | refine Ext.put ?_ ?_ _ | refine Ext.trans ?_ (by assumption))) <;> (first | omega | (simp only [AH.size_new, AH.size_put] <;> omega))))
        · exact gO
      · rw [if_neg hn] at st
        simp (maxSteps := 2000000) (disch := first | omega | (simp only [AH.size_new, AH.size_put] <;> omega) | fail) only [amR Tryd.prog ro X, amS, seval, reduceCtorEq, ty3, ty9, ty27, ty29, ty39, ty40, ty42, ty116, ty118, e1, e2, e4, e5, e11, e12, e13, n1, rr', hn, gO]
        generalize hH : (A'.new _).put A'.size _ = H
        have hEH : Ext A' H := by rw [← hH]; exact (by ((repeat' (first | exact Ext.refl _ | assumption | refine Ext.trans ?_ (Ext.new _ _) | refine Ext.put ?_ ?_ _ | refine Ext.trans ?_ (by assumption))) <;> (first | omega | (simp only [AH.size_new, AH.size_put] <;> omega))))
        have hHz : H.size = A'.size + 1 := by rw [← hH]; rfl
        obtain ⟨s2', A8, hap, hs', hg, hz8, _⟩ := (hacc.ext hEH).lit (P := Tryd.prog) (ro := ro) (t := 39) (n := 1) (vs := [.string x.1[i].1, .string x.1[i].2]) (xs := [x.1[i]]) (by omega) (by simp only [ty39]; rfl) rfl (Reps.one (rep_Source.2 ⟨rfl, rfl, by show x.1[i].1.size < _; unfold BIG; omega, by show x.1[i].2.size < _; unfold BIG; omega⟩)) (.inr (by simp)) (by omega) (by omega)
        rw [show Dat.w TSource = 2 from rfl, hHz] at hap
        have gH := (hEH.get (A.size + 2) (by omega)).trans gO
        have gA8 := (hg.get (A.size + 2) (by omega) (.inl (by omega))).trans gH
        simp (maxSteps := 2000000) (disch := first | omega | (simp only [AH.size_new, AH.size_put] <;> omega) | fail) only [amR Tryd.prog ro X, amS, seval, reduceCtorEq, ty3, ty9, ty27, ty29, ty39, ty40, ty42, ty116, ty118, e1, e2, e4, e5, e11, e12, e13, hap, gH, gA8]
        refine ⟨x.1.length - (i + 1), by omega, ⟨(by first | omega | (simp only [AH.size_new, AH.size_put] <;> omega)), fun b hb hm => (AH.get_put_other (by simpa using hm)).trans ((hg.get b (by omega) (.inl hb)).trans ((hEH.get b (by omega)).trans (hX.get b hb hm)))⟩, i + 1, by omega, rfl, by simp, s2', ?_, rfl⟩
        rw [st]
        exact hs'.frame (Nat.le_refl _) (fun x hx h => AH.get_put_other (by rcases h with h | h; omega; simp at h))
    · have hil : i = x.1.length := by simp at h; omega
      subst hil
      rw [List.take_length] at hacc
      have gb := (hX.get A.size (by omega) (by simp)).trans gb0
      simp (maxSteps := 2000000) (disch := first | omega | (simp only [AH.size_new, AH.size_put] <;> omega) | fail) only [amR Tryd.prog ro X, amS, seval, reduceCtorEq, ty3, ty9, ty27, ty29, ty39, ty40, ty42, ty116, ty118, e1, e2, e4, e5, gb, hl2]
      have hEA : Ext A A' := ⟨by have := hE0.size; omega, fun b hb => (hX.get b (by omega) (by simp; omega)).trans (hE0.get b hb)⟩
      obtain ⟨G1, hG1, fr1⟩ := hacc.fresh (Fresh.nil A0 A')
      refine Wp.loopC (fun k e H => ExtX [A.size + 2] A' H ∧ e 1 = .string n ∧ e 2 = .pointer (some ⟨A.size, 0, none⟩) ∧ e 4 = .pointer (some ⟨A.size + 1, 0, none⟩) ∧ e 5 = .pointer (some ⟨A.size + 2, 0, none⟩) ∧ e 29 = s2.v ∧ e 30 = .int .i64 x.2.length ∧
        ∃ i : Nat, i ≤ x.2.length ∧ k = x.2.length - i ∧ e 31 = .int .i64 i ∧ ∃ u G, Acc A'.size H u (wo n (x.2.take i)) G ∧ Fresh A' G H ∧ (u.nl = true ∨ u.b < H.size) ∧ H.get (A.size + 2) = .cells [s'.v, u.v] 2) (x.2.length - 0) ?_ ?_
      · simp (maxSteps := 2000000) (disch := first | omega | (simp only [AH.size_new, AH.size_put] <;> omega) | fail) only [amV, amH, amQ, amL, amN Tryd.prog, amS, seval, reduceCtorEq, ty3, ty9, ty27, ty29, ty39, ty40, ty42, ty116, ty118, hl2, e1, e2, e4, e5]
        exact ⟨ExtX.refl _ _, 0, by omega, rfl, rfl, Sl.nil, [], .nil, Fresh.nil _ _, .inl rfl, gO⟩
      · rintro k e H ⟨hXH, e1, e2, e4, e5, e29, e30, i, hi, rfl, e31, u, G, hacc2, hfr, hub, gO⟩
        have hzH := hXH.size
        have hs2 : SlR H s2 x.2 F2 := (h2.ext hEA).extx hXH (fun b hb => by have := h2.bound b hb; simp; omega)
        simp (maxSteps := 2000000) (disch := first | omega | (simp only [AH.size_new, AH.size_put] <;> omega) | fail) only [amR Tryd.prog ro X, amS, seval, reduceCtorEq, ty3, ty9, ty27, ty29, ty39, ty40, ty42, ty116, ty118, e30, e31]
        refine CondB.split (fun h => ?_) (fun h => ?_)
        · have hil : i < x.2.length := by simpa using h
          obtain ⟨c, t, G0, n1, b1, i1, c1, r0, r1, rr, z1, ht, hG0, _⟩ := hs2.target hil
          have rr' : rowK (s2.o + i * 2) 2 (H.get s2.b) = some [.string x.2[i].1, t.v] := by rw [c1]; exact rr
          have st := wo_take_succ n hil
          have hwl := wo_length n (x.2.take i)
          rw [List.length_take] at hwl
          by_cases hn : x.2[i].1 = n
          · simp (maxSteps := 2000000) (disch := first | omega | (simp only [AH.size_new, AH.size_put] <;> omega) | fail) only [amR Tryd.prog ro X, amS, seval, reduceCtorEq, ty3, ty9, ty27, ty29, ty39, ty40, ty42, ty116, ty118, e1, e2, e4, e5, e29, e30, e31, n1, rr', hn]
            rw [if_pos hn, List.append_nil] at st
            refine ⟨x.2.length - (i + 1), by omega, ⟨by simp only [AH.size_put, AH.size_new]; omega, fun b hb hm => ?_⟩, i + 1, by omega, rfl, by simp, u, G, ?_, ?_, ?_, ?_⟩
            · rw [AH.get_put_other (by omega), AH.get_new_other (by omega)]; exact hXH.get b hb hm
            · rw [st]; exact hacc2.ext (by ((repeat' (first | exact Ext.refl _ | assumption | refine Ext.trans ?_ (Ext.new _ _) | refine Ext.put ?_ ?_ _ | refine Ext.trans ?_ (by assumption))) <;> (first | omega | (simp only [AH.size_new, AH.size_put] <;> omega))))
            · exact hfr.mono (Nat.le_refl _) (by first | omega | (simp only [AH.size_new, AH.size_put] <;> omega))
            · exact hub.imp id fun h => (by first | omega | (simp only [AH.size_new, AH.size_put] <;> omega))
            · exact gO
          · rw [if_neg hn] at st
            simp (maxSteps := 2000000) (disch := first | omega | (simp only [AH.size_new, AH.size_put] <;> omega) | fail) only [amR Tryd.prog ro X, amS, seval, reduceCtorEq, ty3, ty9, ty27, ty29, ty39, ty40, ty42, ty116, ty118, e1, e2, e4, e5, e29, e30, e31, n1, rr', hn]
            generalize hJ : (H.new _).put H.size _ = J
            have hEJ : Ext H J := by rw [← hJ]; exact (by ((repeat' (first | exact Ext.refl _ | assumption | refine Ext.trans ?_ (Ext.new _ _) | refine Ext.put ?_ ?_ _ | refine Ext.trans ?_ (by assumption))) <;> (first | omega | (simp only [AH.size_new, AH.size_put] <;> omega))))
            have hJz : J.size = H.size + 1 := by rw [← hJ]; rfl
            have gJ : J.get H.size = .cells [.string x.2[i].1, t.v] 2 := by rw [← hJ]; exact AH.get_put_self _ _ _
            have gJO := (hEJ.get (A.size + 2) (by omega)).trans gO
            refine WpH (J.size) [6] (by kernel_rfl) (.inl (by kernel_rfl)) ?_
            simp (maxSteps := 2000000) (disch := first | omega | (simp only [AH.size_new, AH.size_put] <;> omega) | fail) only [amX Tryd.prog ro X, amR Tryd.prog ro X, amS, seval, reduceCtorEq, ty3, ty9, ty27, ty29, ty39, ty40, ty42, ty116, ty118, e1, e2, e4, e5, e29, e30, e31, gJ, gJO]
            refine (Copy.impl.copyProgram_a _ (by first | omega | (simp only [AH.size_new, AH.size_put] <;> omega)) t x.2[i].2 G0 (ht.ext hEJ) (hp _ (List.getElem_mem hil))).mono ?_
            rintro r A3 ⟨t3, G3, rfl, q3, fr3, hE3⟩
            have v3 := hE3.size
            obtain ⟨u2, A8, hap, hs', hg, hz8, _⟩ := ((hacc2.ext hEJ).ext hE3).lit (P := Tryd.prog) (ro := ro) (t := 40) (n := 1) (vs := [.string x.2[i].1, t3.v]) (xs := [x.2[i]]) (Gx := G3) (by omega) (by simp only [ty40]; rfl) rfl (Reps.one (rep_Target.2 ⟨t3, G3, rfl, rfl, by show x.2[i].1.size < _; unfold BIG; omega, q3⟩)) (hub.imp id fun h hm => by have := fr3.lo _ hm; omega) (by omega) (by omega)
            rw [show Dat.w TTarget = 2 from rfl] at hap
            have gA3 := (hE3.get (A.size + 2) (by omega)).trans gJO
            have gA8 := (hg.get (A.size + 2) (by omega) (.inl (by omega))).trans gA3
            simp (maxSteps := 2000000) (disch := first | omega | (simp only [AH.size_new, AH.size_put] <;> omega) | fail) only [amX Tryd.prog ro X, amR Tryd.prog ro X, amS, seval, reduceCtorEq, ty3, ty9, ty27, ty29, ty39, ty40, ty42, ty116, ty118, e1, e2, e4, e5, e29, e30, e31, hap, gA3, gA8]
            obtain ⟨w1, w2, w3⟩ := hs'.lt (by simp)
            refine ⟨fun b hb => hE3.get b hb, x.2.length - (i + 1), by omega, ⟨(by first | omega | (simp only [AH.size_new, AH.size_put] <;> omega)), fun b hb hm => (AH.get_put_other (by simpa using hm)).trans ((hg.get b (by omega) (.inl hb)).trans ((hE3.get b (by omega)).trans ((hEJ.get b (by omega)).trans (hXH.get b hb hm))))⟩, i + 1, by omega, rfl, by simp, u2, G ++ G3, ?_, ?_, .inr (by first | omega | (simp only [AH.size_new, AH.size_put] <;> omega)), rfl⟩
            · rw [st]
              refine hs'.frame (Nat.le_refl _) (fun x hx h => AH.get_put_other ?_)
              rcases h with ⟨_, h, _⟩ | h
              · omega
              · rcases List.mem_append.1 h with h | h
                · have := hfr.lo x h; omega
                · have := fr3.lo x h; omega
            · exact ((hfr.mono (Nat.le_refl _) (by omega)).append fr3 (by omega) (by omega)).mono (Nat.le_refl _) (by first | omega | (simp only [AH.size_new, AH.size_put] <;> omega))
        · have hil : i = x.2.length := by simp at h; omega
          subst hil
          rw [List.take_length] at hacc2
          have gr := ((hXH.get (A.size + 1) (by omega) (by simp)).trans (hX.get (A.size + 1) (by omega) (by simp))).trans gr0
          simp (maxSteps := 2000000) (disch := first | omega | (simp only [AH.size_new, AH.size_put] <;> omega) | fail) only [amR Tryd.prog ro X, amS, seval, reduceCtorEq, ty3, ty9, ty27, ty29, ty39, ty40, ty42, ty116, ty118, e1, e2, e4, e5, gO, gr]
          obtain ⟨G2, hG2, fr2⟩ := hacc2.fresh hfr
          have hEH : Ext A H := ⟨by omega, fun b hb => (hXH.get b (by omega) (by simp; omega)).trans (hEA.get b hb)⟩
          refine ⟨s', u, G1, G2, rfl, ?_, ?_, ?_, (by ((repeat' (first | exact Ext.refl _ | assumption | refine Ext.trans ?_ (Ext.new _ _) | refine Ext.put ?_ ?_ _ | refine Ext.trans ?_ (by assumption))) <;> (first | omega | (simp only [AH.size_new, AH.size_put] <;> omega))))⟩
          · exact (hG1.extx hXH (fun b hb => by have := fr1.lo b hb; simp; omega)).extx ((ExtX.refl [A.size + 1] H).put (by simp) _) (fun b hb => by have := fr1.lo b hb; simp; omega)
          · exact hG2.extx ((ExtX.refl [A.size + 1] H).put (by simp) _) (fun b hb => by have := fr2.lo b hb; simp; omega)
          · exact ((fr1.append fr2 (by omega) (by omega)).mono (by omega) (by first | omega | (simp only [AH.size_new, AH.size_put] <;> omega)))
theorem l3Without_a (A : AH) (hro : ro ≤ A.size) (s1 s2 : Sl) (x : TSpace) (F1 F2 : List Nat) (h1 : SlR A s1 x.1 F1) (h2 : SlR A s2 x.2 F2) (hl1' : x.1.length < 4294967296) (hl2' : x.2.length < 4294967296) (hp : ∀ t ∈ x.2, t.2.length < 4294967296) (n : ByteArray) :
    ACalls Tryd.prog ro X 114 [.agg #[s1.v, s2.v], .string n] A (fun r A' => ∃ t1 t2 G1 G2, r = .ret (.agg #[t1.v, t2.v]) ∧ SlR A' t1 (wo n x.1) G1 ∧ SlR A' t2 (wo n x.2) G2 ∧ Fresh A (G1 ++ G2) A' ∧ Ext A A') := by
  refine ACalls.enterQ (rs := [.cell 4 42]) Tryd.func114 rfl (by kernel_rfl) rfl ?_
  have hl1 := h1.len
  have hl2 := h2.len
  simp (maxSteps := 2000000) (disch := first | omega | (simp only [AH.size_new, AH.size_put] <;> omega) | fail) only [amR Tryd.prog ro X, amS, seval, reduceCtorEq, ty3, ty9, ty27, ty29, ty39, ty40, ty42, ty116, ty118, hl1, hl2]
  generalize hA0 : AH.put (((A.new _).new _).new _) _ _ = A0
  have hz0 : A0.size = A.size + 3 := by rw [← hA0]; rfl
  have hE0 : Ext A A0 := by rw [← hA0]; exact (by ((repeat' (first | exact Ext.refl _ | assumption | refine Ext.trans ?_ (Ext.new _ _) | refine Ext.put ?_ ?_ _ | refine Ext.trans ?_ (by assumption))) <;> (first | omega | (simp only [AH.size_new, AH.size_put] <;> omega))))
  have go0 : A0.get (A.size + 2) = .cells [Sl.nil.v, Sl.nil.v] 2 := by rw [← hA0]; exact AH.get_put_self _ _ _
  have gr0 : A0.get (A.size + 1) = .cells [Sl.nil.v, Sl.nil.v] 2 := by rw [← hA0, AH.get_put_other (by omega), AH.get_new_other (by simp only [AH.size_new]; omega)]; exact AH.get_new_self _ _
  have gb0 : A0.get A.size = .cells [s1.v, s2.v] 2 := by rw [← hA0, AH.get_put_other (by omega), AH.get_new_other (by simp only [AH.size_new]; omega), AH.get_new_other (by simp only [AH.size_new]; omega)]; exact AH.get_new_self _ _
  refine Wp.loopC (fun k e A' => ExtX [A.size + 2] A0 A' ∧ e 1 = .string n ∧ e 2 = .pointer (some ⟨A.size, 0, none⟩) ∧ e 4 = .pointer (some ⟨A.size + 1, 0, none⟩) ∧ e 5 = .pointer (some ⟨A.size + 2, 0, none⟩) ∧
    ∃ i : Nat, i ≤ x.1.length ∧ k = x.1.length - i ∧ e 6 = .int .i64 i ∧ ∃ s', Acc A0.size A' s' (wo n (x.1.take i)) [] ∧ A'.get (A.size + 2) = .cells [s'.v, Sl.nil.v] 2) (x.1.length - 0) ?_ ?_
  · simp (maxSteps := 2000000) (disch := first | omega | (simp only [AH.size_new, AH.size_put] <;> omega) | fail) only [amV, amH, amQ, amL, amN Tryd.prog, amS, seval, reduceCtorEq, ty3, ty9, ty27, ty29, ty39, ty40, ty42, ty116, ty118, hl1]
    exact ⟨ExtX.refl _ _, 0, by omega, rfl, rfl, Sl.nil, .nil, go0⟩
  · rintro k e A' ⟨hX, e1, e2, e4, e5, i, hi, rfl, e6, s', hacc, gO⟩
    have hz := hX.size
    have hs1 : SlR A' s1 x.1 F1 := (h1.ext hE0).extx hX (fun b hb => by have := h1.bound b hb; simp; omega)
    have gb := (hX.get A.size (by omega) (by simp)).trans gb0
    simp (maxSteps := 2000000) (disch := first | omega | (simp only [AH.size_new, AH.size_put] <;> omega) | fail) only [amR Tryd.prog ro X, amS, seval, reduceCtorEq, ty3, ty9, ty27, ty29, ty39, ty40, ty42, ty116, ty118, e2, e6, gb, hl1]
    refine CondB.split (fun h => ?_) (fun h => ?_)
    · have hil : i < x.1.length := by simpa using h
      obtain ⟨c, n1, b1, i1, c1, r0, r1, rr, z1, z2⟩ := hs1.source hil
      have rr' : rowK (s1.o + i * 2) 2 (A'.get s1.b) = some [.string x.1[i].1, .string x.1[i].2] := by rw [c1]; exact rr
      have st := wo_take_succ n hil
      have hwl := wo_length n (x.1.take i)
      rw [List.length_take] at hwl
      by_cases hn : x.1[i].1 = n
      · simp (maxSteps := 2000000) (disch := first | omega | (simp only [AH.size_new, AH.size_put] <;> omega) | fail) only [amR Tryd.prog ro X, amS, seval, reduceCtorEq, ty3, ty9, ty27, ty29, ty39, ty40, ty42, ty116, ty118, e1, e2, e4, e5, e6, n1, gb, hl1, c1, r0, hn]
        rw [if_pos hn, List.append_nil] at st
        exact ⟨x.1.length - (i + 1), by omega, hX, i + 1, by omega, rfl, by simp, s', by rw [st]; exact hacc, gO⟩
      · rw [if_neg hn] at st
        obtain ⟨s2', A8, hap, hs', hg, hz8, _⟩ := hacc.lit (P := Tryd.prog) (ro := ro) (t := 39) (n := 1) (vs := [.string x.1[i].1, .string x.1[i].2]) (xs := [x.1[i]]) (by omega) (by simp only [ty39]; rfl) rfl (Reps.one (rep_Source.2 ⟨rfl, rfl, by show x.1[i].1.size < _; unfold BIG; omega, by show x.1[i].2.size < _; unfold BIG; omega⟩)) (.inr (by simp)) (by omega) (by omega)
        rw [show Dat.w TSource = 2 from rfl] at hap
        have gA8 := (hg.get (A.size + 2) (by omega) (.inl (by omega))).trans gO
        simp (maxSteps := 2000000) (disch := first | omega | (simp only [AH.size_new, AH.size_put] <;> omega) | fail) only [amR Tryd.prog ro X, amS, seval, reduceCtorEq, ty3, ty9, ty27, ty29, ty39, ty40, ty42, ty116, ty118, e1, e2, e4, e5, e6, n1, gb, hl1, c1, r0, hn]
        refine WpH (A'.size) [] (by kernel_rfl) (.inl (by kernel_rfl)) ?_
        simp (maxSteps := 2000000) (disch := first | omega | (simp only [AH.size_new, AH.size_put] <;> omega) | fail) only [amX Tryd.prog ro X, amR Tryd.prog ro X, amS, seval, reduceCtorEq, ty3, ty9, ty27, ty29, ty39, ty40, ty42, ty116, ty118, e1, e2, e4, e5, e6, hap, gO, gA8, gb, hl1, n1, rr', b1]
        refine ⟨x.1.length - (i + 1), by omega, ⟨(by first | omega | (simp only [AH.size_new, AH.size_put] <;> omega)), fun b hb hm => (AH.get_put_other (by simpa using hm)).trans ((hg.get b (by omega) (.inl hb)).trans (hX.get b hb hm))⟩, i + 1, by omega, rfl, by simp, s2', ?_, rfl⟩
        rw [st]
        exact hs'.frame (Nat.le_refl _) (fun x hx h => AH.get_put_other (by rcases h with h | h; omega; simp at h))
    · have hil : i = x.1.length := by simp at h; omega
      subst hil
      rw [List.take_length] at hacc
      simp (maxSteps := 2000000) (disch := first | omega | (simp only [AH.size_new, AH.size_put] <;> omega) | fail) only [amR Tryd.prog ro X, amS, seval, reduceCtorEq, ty3, ty9, ty27, ty29, ty39, ty40, ty42, ty116, ty118, e1, e2, e4, e5, gb, hl2]
      have hEA : Ext A A' := ⟨by have := hE0.size; omega, fun b hb => (hX.get b (by omega) (by simp; omega)).trans (hE0.get b hb)⟩
      obtain ⟨G1, hG1, fr1⟩ := hacc.fresh (Fresh.nil A0 A')
      refine Wp.loopC (fun k e H => ExtX [A.size + 2] A' H ∧ e 1 = .string n ∧ e 2 = .pointer (some ⟨A.size, 0, none⟩) ∧ e 4 = .pointer (some ⟨A.size + 1, 0, none⟩) ∧ e 5 = .pointer (some ⟨A.size + 2, 0, none⟩) ∧
        ∃ i : Nat, i ≤ x.2.length ∧ k = x.2.length - i ∧ e 7 = .int .i64 i ∧ ∃ u G, Acc A'.size H u (wo n (x.2.take i)) G ∧ Fresh A' G H ∧ (u.nl = true ∨ u.b < H.size) ∧ H.get (A.size + 2) = .cells [s'.v, u.v] 2) (x.2.length - 0) ?_ ?_
      · simp (maxSteps := 2000000) (disch := first | omega | (simp only [AH.size_new, AH.size_put] <;> omega) | fail) only [amV, amH, amQ, amL, amN Tryd.prog, amS, seval, reduceCtorEq, ty3, ty9, ty27, ty29, ty39, ty40, ty42, ty116, ty118, hl2, e1, e2, e4, e5]
        exact ⟨ExtX.refl _ _, 0, by omega, rfl, rfl, Sl.nil, [], .nil, Fresh.nil _ _, .inl rfl, gO⟩
      · rintro k e H ⟨hXH, e1, e2, e4, e5, i, hi, rfl, e7, u, G, hacc2, hfr, hub, gO⟩
        have hzH := hXH.size
        have hs2 : SlR H s2 x.2 F2 := (h2.ext hEA).extx hXH (fun b hb => by have := h2.bound b hb; simp; omega)
        have gbH := (hXH.get A.size (by omega) (by simp)).trans gb
        simp (maxSteps := 2000000) (disch := first | omega | (simp only [AH.size_new, AH.size_put] <;> omega) | fail) only [amR Tryd.prog ro X, amS, seval, reduceCtorEq, ty3, ty9, ty27, ty29, ty39, ty40, ty42, ty116, ty118, e2, e7, gbH, hl2]
        refine CondB.split (fun h => ?_) (fun h => ?_)
        · have hil : i < x.2.length := by simpa using h
          obtain ⟨c, t, G0, n1, b1, i1, c1, r0, r1, rr, z1, ht, hG0, _⟩ := hs2.target hil
          have st := wo_take_succ n hil
          have hwl := wo_length n (x.2.take i)
          rw [List.length_take] at hwl
          by_cases hn : x.2[i].1 = n
          · simp (maxSteps := 2000000) (disch := first | omega | (simp only [AH.size_new, AH.size_put] <;> omega) | fail) only [amR Tryd.prog ro X, amS, seval, reduceCtorEq, ty3, ty9, ty27, ty29, ty39, ty40, ty42, ty116, ty118, e1, e2, e4, e5, e7, n1, gbH, hl2, c1, r0, hn]
            rw [if_pos hn, List.append_nil] at st
            exact ⟨x.2.length - (i + 1), by omega, hXH, i + 1, by omega, rfl, by simp, u, G, by rw [st]; exact hacc2, hfr, hub, gO⟩
          · rw [if_neg hn] at st
            simp (maxSteps := 2000000) (disch := first | omega | (simp only [AH.size_new, AH.size_put] <;> omega) | fail) only [amR Tryd.prog ro X, amS, seval, reduceCtorEq, ty3, ty9, ty27, ty29, ty39, ty40, ty42, ty116, ty118, e1, e2, e4, e5, e7, n1, gbH, hl2, c1, r0, hn]
            refine WpH (H.size) [14] (by kernel_rfl) (.inl (by kernel_rfl)) ?_
            simp (maxSteps := 2000000) (disch := first | omega | (simp only [AH.size_new, AH.size_put] <;> omega) | fail) only [amX Tryd.prog ro X, amR Tryd.prog ro X, amS, seval, reduceCtorEq, ty3, ty9, ty27, ty29, ty39, ty40, ty42, ty116, ty118, e1, e2, e4, e5, e7, gO, gbH, hl2, n1, c1, r0, r1, take1 r1, b1]
            refine (Copy.spec.l3Program_a _ (by first | omega | (simp only [AH.size_new, AH.size_put] <;> omega)) t x.2[i].2 G0 ht (hp _ (List.getElem_mem hil))).mono ?_
            rintro r A3 ⟨t3, G3, rfl, q3, fr3, hE3⟩
            have v3 := hE3.size
            obtain ⟨u2, A8, hap, hs', hg, hz8, _⟩ := (hacc2.ext hE3).lit (P := Tryd.prog) (ro := ro) (t := 40) (n := 1) (vs := [.string x.2[i].1, t3.v]) (xs := [x.2[i]]) (Gx := G3) (by omega) (by simp only [ty40]; rfl) rfl (Reps.one (rep_Target.2 ⟨t3, G3, rfl, rfl, by show x.2[i].1.size < _; unfold BIG; omega, q3⟩)) (hub.imp id fun h hm => by have := fr3.lo _ hm; omega) (by omega) (by omega)
            rw [show Dat.w TTarget = 2 from rfl] at hap
            have gA3 := (hE3.get (A.size + 2) (by omega)).trans gO
            have gA8 := (hg.get (A.size + 2) (by omega) (.inl (by omega))).trans gA3
            simp (maxSteps := 2000000) (disch := first | omega | (simp only [AH.size_new, AH.size_put] <;> omega) | fail) only [amX Tryd.prog ro X, amR Tryd.prog ro X, amS, seval, reduceCtorEq, ty3, ty9, ty27, ty29, ty39, ty40, ty42, ty116, ty118, e1, e2, e4, e5, e7, hap, gA3, gA8]
            obtain ⟨w1, w2, w3⟩ := hs'.lt (by simp)
            refine ⟨fun b hb => hE3.get b hb, x.2.length - (i + 1), by omega, ⟨(by first | omega | (simp only [AH.size_new, AH.size_put] <;> omega)), fun b hb hm => (AH.get_put_other (by simpa using hm)).trans ((hg.get b (by omega) (.inl hb)).trans ((hE3.get b (by omega)).trans (hXH.get b hb hm)))⟩, i + 1, by omega, rfl, by simp, u2, G ++ G3, ?_, ?_, .inr (by first | omega | (simp only [AH.size_new, AH.size_put] <;> omega)), rfl⟩
            · rw [st]
              refine hs'.frame (Nat.le_refl _) (fun x hx h => AH.get_put_other ?_)
              rcases h with ⟨_, h, _⟩ | h
              · omega
              · rcases List.mem_append.1 h with h | h
                · have := hfr.lo x h; omega
                · have := fr3.lo x h; omega
            · exact ((hfr.mono (Nat.le_refl _) (by omega)).append fr3 (by omega) (by omega)).mono (Nat.le_refl _) (by first | omega | (simp only [AH.size_new, AH.size_put] <;> omega))
        · have hil : i = x.2.length := by simp at h; omega
          subst hil
          rw [List.take_length] at hacc2
          have gr := ((hXH.get (A.size + 1) (by omega) (by simp)).trans (hX.get (A.size + 1) (by omega) (by simp))).trans gr0
          simp (maxSteps := 2000000) (disch := first | omega | (simp only [AH.size_new, AH.size_put] <;> omega) | fail) only [amR Tryd.prog ro X, amS, seval, reduceCtorEq, ty3, ty9, ty27, ty29, ty39, ty40, ty42, ty116, ty118, e1, e2, e4, e5, gO, gr]
          obtain ⟨G2, hG2, fr2⟩ := hacc2.fresh hfr
          have hEH : Ext A H := ⟨by omega, fun b hb => (hXH.get b (by omega) (by simp; omega)).trans (hEA.get b hb)⟩
          refine ⟨s', u, G1, G2, rfl, ?_, ?_, ?_, (by ((repeat' (first | exact Ext.refl _ | assumption | refine Ext.trans ?_ (Ext.new _ _) | refine Ext.put ?_ ?_ _ | refine Ext.trans ?_ (by assumption))) <;> (first | omega | (simp only [AH.size_new, AH.size_put] <;> omega))))⟩
          · exact (hG1.extx hXH (fun b hb => by have := fr1.lo b hb; simp; omega)).extx ((ExtX.refl [A.size + 1] H).put (by simp) _) (fun b hb => by have := fr1.lo b hb; simp; omega)
          · exact hG2.extx ((ExtX.refl [A.size + 1] H).put (by simp) _) (fun b hb => by have := fr2.lo b hb; simp; omega)
          · exact ((fr1.append fr2 (by omega) (by omega)).mono (by omega) (by first | omega | (simp only [AH.size_new, AH.size_put] <;> omega)))
theorem l3Source_a (A : AH) (hro : ro ≤ A.size) (s1 s2 : Sl) (x : TSpace) (F1 : List Nat) (h1 : SlR A s1 x.1 F1) (n : ByteArray) (hl : x.1.length < 1152921504606846976) :
    ACalls Tryd.prog ro X 113 [.agg #[s1.v, s2.v], .string n] A (fun r A' => r = .ret (.int .i64 (placeOf n x.1)) ∧ Ext A A') := by
  refine ACalls.enterQ (rs := [.tmp 4]) Tryd.func113 rfl (by kernel_rfl) rfl ?_
  have hl1 := h1.len
  simp (maxSteps := 2000000) (disch := first | omega | (simp only [AH.size_new, AH.size_put] <;> omega) | fail) only [amR Tryd.prog ro X, amS, seval, reduceCtorEq, ty3, ty9, ty39, ty40, ty42, ty116]
  refine Wp.loopC (fun k e A' => A' = A.new (.cells [s1.v, s2.v] 2) ∧ e 1 = .string n ∧ e 2 = .pointer (some ⟨A.size, 0, none⟩) ∧ ∃ i : Nat, i ≤ x.1.length ∧ k = x.1.length - i ∧ e 5 = .int .i64 i ∧ ∀ y ∈ x.1.take i, y.1 ≠ n) (x.1.length - 0) ?_ ?_
  · simp (maxSteps := 2000000) (disch := first | omega | (simp only [AH.size_new, AH.size_put] <;> omega) | fail) only [amV, amH, amQ, amL, amN Tryd.prog, amS, seval, reduceCtorEq, ty3, ty9, ty39, ty40, ty42, ty116]
    exact ⟨0, by omega, rfl, rfl, by simp⟩
  · rintro k e A' ⟨rfl, g1, g2, i, hi, rfl, g5, hall⟩
    simp (maxSteps := 2000000) (disch := first | omega | (simp only [AH.size_new, AH.size_put] <;> omega) | fail) only [amR Tryd.prog ro X, amS, seval, reduceCtorEq, ty3, ty9, ty39, ty40, ty42, ty116, g1, g2, g5, hl1]
    refine CondB.split (fun h => ?_) (fun h => ?_)
    · have hil : i < x.1.length := by simpa using h
      obtain ⟨c, n1, b1, i1, c1, r0, _⟩ := (h1.ext (Ext.new A (.cells [s1.v, s2.v] 2))).source hil
      by_cases hn : x.1[i].1 = n
      · simp (maxSteps := 2000000) (disch := first | omega | (simp only [AH.size_new, AH.size_put] <;> omega) | fail) only [amR Tryd.prog ro X, amS, seval, reduceCtorEq, ty3, ty9, ty39, ty40, ty42, ty116, g1, g2, g5, n1, c1, r0, hn]
        refine ⟨?_, Ext.new _ _⟩
        rw [placeOf_some hil hall hn]
      · simp (maxSteps := 2000000) (disch := first | omega | (simp only [AH.size_new, AH.size_put] <;> omega) | fail) only [amR Tryd.prog ro X, amS, seval, reduceCtorEq, ty3, ty9, ty39, ty40, ty42, ty116, g1, g2, g5, n1, c1, r0, hn]
        exact ⟨x.1.length - (i + 1), by omega, i + 1, by omega, rfl, by simp, (all_take_succ hil).2 ⟨hall, hn⟩⟩
    · have hil : i = x.1.length := by simp at h; omega
      subst hil
      rw [List.take_length] at hall
      simp (maxSteps := 2000000) (disch := first | omega | (simp only [AH.size_new, AH.size_put] <;> omega) | fail) only [amR Tryd.prog ro X, amS, seval, reduceCtorEq, ty3, ty9, ty39, ty40, ty42, ty116]
      refine ⟨?_, Ext.new _ _⟩
      rw [placeOf_none hall]
theorem size_a (A : AH) (hro : ro ≤ A.size) (s1 s2 : Sl) (h1 : s1.len < 1152921504606846976) (h2 : s2.len < 1152921504606846976) : ACalls Tryd.prog ro X 116 [.agg #[s1.v, s2.v]] A (fun r A' => r = .ret (.int .i64 (s1.len + s2.len)) ∧ Ext A A') := by
  refine ACalls.enterQ (rs := [.tmp 2]) Tryd.func116 rfl (by kernel_rfl) rfl ?_
  simp (maxSteps := 2000000) (disch := first | omega | (simp only [AH.size_new, AH.size_put] <;> omega) | fail) only [amR Tryd.prog ro X, amS, seval, reduceCtorEq, ty3, ty39, ty40, ty42, ty116, ty118]
  exact Ext.new _ _
theorem zeroSp_rep (A : AH) : Dat.rep A zeroSp [Sl.nil.v, Sl.nil.v] [] := rep_Space.2 ⟨_, _, _, _, rfl, rfl, .nil rfl rfl rfl, .nil rfl rfl rfl⟩
theorem dropR_1 {x : TSpace} {n : ByteArray} (h : spaceCode x ≠ 0) : dropR x n = (zeroSp, 1) := if_pos h
theorem dropR_2 {x : TSpace} {n : ByteArray} (h : ¬ spaceCode x ≠ 0) (k : ¬ NameOk n) : dropR x n = (zeroSp, 2) := by rw [dropR, if_neg h, if_pos k]
theorem dropR_4 {x : TSpace} {n : ByteArray} (h : ¬ spaceCode x ≠ 0) (k : NameOk n) (l : ¬ lies x n) : dropR x n = (zeroSp, 4) := by rw [dropR, if_neg h, if_neg (fun q => q k), if_neg l]
theorem dropR_0 {x : TSpace} {n : ByteArray} (h : ¬ spaceCode x ≠ 0) (k : NameOk n) (l : lies x n) : dropR x n = (withoutR x n, 0) := by rw [dropR, if_neg h, if_neg (fun q => q k), if_pos l]
theorem impl_a (A : AH) (hro : ro ≤ A.size) (hT : Tab 0 A) (s1 s2 : Sl) (x : TSpace) (F1 F2 : List Nat) (h1 : SlR A s1 x.1 F1) (h2 : SlR A s2 x.2 F2) (hl1' : x.1.length < 4294967296) (hl2' : x.2.length < 4294967296) (hp : ∀ t ∈ x.2, t.2.length < 4294967296) (n : ByteArray) :
    ACalls Tryd.prog ro X 48 [.agg #[s1.v, s2.v], .string n] A (fun r A' => ∃ cs G, r = .ret (.tuple #[.agg cs.toArray, .int .i64 (dropR x n).2]) ∧ Dat.rep A' (dropR x n).1 cs G ∧ Fresh A G A' ∧ Ext A A') := by
  refine ACalls.enterQ (rs := [.cell 4 42, .tmp 5]) Tryd.func48 rfl (by kernel_rfl) rfl ?_
  have hl1 := h1.len
  have hl2 := h2.len
  simp (maxSteps := 2000000) (disch := first | omega | (simp only [AH.size_new, AH.size_put] <;> omega) | fail) only [amR Tryd.prog ro X, amS, seval, reduceCtorEq, ty3, ty4, ty39, ty40, ty42]
  refine (Space2.implCheck_a _ (by first | omega | (simp only [AH.size_new, AH.size_put] <;> omega)) (hT.ext (by ((repeat' (first | exact Ext.refl _ | assumption | refine Ext.trans ?_ (Ext.new _ _) | refine Ext.put ?_ ?_ _ | refine Ext.trans ?_ (by assumption))) <;> (first | omega | (simp only [AH.size_new, AH.size_put] <;> omega))))) s1 s2 x F1 F2 (h1.ext (by ((repeat' (first | exact Ext.refl _ | assumption | refine Ext.trans ?_ (Ext.new _ _) | refine Ext.put ?_ ?_ _ | refine Ext.trans ?_ (by assumption))) <;> (first | omega | (simp only [AH.size_new, AH.size_put] <;> omega))))) (h2.ext (by ((repeat' (first | exact Ext.refl _ | assumption | refine Ext.trans ?_ (Ext.new _ _) | refine Ext.put ?_ ?_ _ | refine Ext.trans ?_ (by assumption))) <;> (first | omega | (simp only [AH.size_new, AH.size_put] <;> omega))))) (by omega) (by omega)).mono ?_
  rintro r A1 ⟨rfl, hE1⟩
  have v1 := hE1.size
  simp only [AH.size_new] at v1
  by_cases k1 : spaceCode x = 0
  · simp (maxSteps := 2000000) (disch := first | omega | (simp only [AH.size_new, AH.size_put] <;> omega) | fail) only [amR Tryd.prog ro X, amS, seval, reduceCtorEq, ty3, ty4, ty39, ty40, ty42, hE1.get, k1]
    refine (Store.impl.isName_a _ n).mono ?_
    rintro r A2 ⟨rfl, rfl⟩
    have k1' : ¬ spaceCode x ≠ 0 := fun h => h k1
    by_cases k2 : NameOk n
    · simp (maxSteps := 2000000) (disch := first | omega | (simp only [AH.size_new, AH.size_put] <;> omega) | fail) only [amR Tryd.prog ro X, amS, seval, reduceCtorEq, ty3, ty4, ty39, ty40, ty42, hE1.get, k2]
      refine (without_a _ (by first | omega | (simp only [AH.size_new, AH.size_put] <;> omega)) s1 s2 x F1 F2 (h1.ext (by ((repeat' (first | exact Ext.refl _ | assumption | refine Ext.trans ?_ (Ext.new _ _) | refine Ext.put ?_ ?_ _ | refine Ext.trans ?_ (by assumption))) <;> (first | omega | (simp only [AH.size_new, AH.size_put] <;> omega))))) (h2.ext (by ((repeat' (first | exact Ext.refl _ | assumption | refine Ext.trans ?_ (Ext.new _ _) | refine Ext.put ?_ ?_ _ | refine Ext.trans ?_ (by assumption))) <;> (first | omega | (simp only [AH.size_new, AH.size_put] <;> omega))))) hl1' hl2' hp n).mono ?_
      rintro r A3 ⟨t1, t2, G1, G2, rfl, q1, q2, fr, hE3⟩
      have v3 := hE3.size
      have w1 := wo_length n x.1
      have w2 := wo_length n x.2
      have m1 := q1.len
      have m2 := q2.len
      have u1 := (hE3.get A.size (by first | omega | (simp only [AH.size_new, AH.size_put] <;> omega))).trans (hE1.get A.size (by first | omega | (simp only [AH.size_new, AH.size_put] <;> omega)))
      have u2 := (hE3.get (A.size + 1) (by first | omega | (simp only [AH.size_new, AH.size_put] <;> omega))).trans (hE1.get (A.size + 1) (by first | omega | (simp only [AH.size_new, AH.size_put] <;> omega)))
      simp (maxSteps := 2000000) (disch := first | omega | (simp only [AH.size_new, AH.size_put] <;> omega) | fail) only [amR Tryd.prog ro X, amS, seval, reduceCtorEq, ty3, ty4, ty39, ty40, ty42]
      refine WpH (A3.size + 1) [1] (by kernel_rfl) (.inr (by intro v e A h; simp only [amK, amQ, thenQ, blockQ, endQ, reduceCtorEq, false_and, exists_false] at h)) ?_
      simp (maxSteps := 2000000) (disch := first | omega | (simp only [AH.size_new, AH.size_put] <;> omega) | fail) only [amX Tryd.prog ro X, amR Tryd.prog ro X, amS, seval, reduceCtorEq, ty3, ty4, ty39, ty40, ty42, u1, u2]
      refine (size_a _ (by first | omega | (simp only [AH.size_new, AH.size_put] <;> omega)) t1 t2 (by omega) (by omega)).mono ?_
      rintro r A4 ⟨rfl, hE4⟩
      have v4 := hE4.size
      simp only [AH.size_new, AH.size_put] at v4
      have u3 := hE4.get A.size (by first | omega | (simp only [AH.size_new, AH.size_put] <;> omega))
      have u5 := (hE4.get (A.size + 1) (by first | omega | (simp only [AH.size_new, AH.size_put] <;> omega)))
      have u4 := hE4.get A3.size (by first | omega | (simp only [AH.size_new, AH.size_put] <;> omega))
      simp (maxSteps := 2000000) (disch := first | omega | (simp only [AH.size_new, AH.size_put] <;> omega) | fail) only [amX Tryd.prog ro X, amR Tryd.prog ro X, amS, seval, reduceCtorEq, ty3, ty4, ty39, ty40, ty42, u1, u2, u3, u4, u5]
      refine ⟨fun b hb => hE4.get b (by first | omega | (simp only [AH.size_new, AH.size_put] <;> omega)), ?_⟩
      refine (size_a _ (by first | omega | (simp only [AH.size_new, AH.size_put] <;> omega)) s1 s2 (by omega) (by omega)).mono ?_
      rintro r A5 ⟨rfl, hE5⟩
      have v5 := hE5.size
      have u6 := hE5.get A.size (by first | omega | (simp only [AH.size_new, AH.size_put] <;> omega))
      have u8 := (hE5.get (A.size + 1) (by first | omega | (simp only [AH.size_new, AH.size_put] <;> omega)))
      have u7 := hE5.get A3.size (by first | omega | (simp only [AH.size_new, AH.size_put] <;> omega))
      by_cases k3 : lies x n
      · have k3' : ¬ ((t1.len : Int) + t2.len = s1.len + s2.len) := by
          rw [m1, m2, hl1, hl2]; exact fun h => (lies_size x n).1 h k3
        simp (maxSteps := 2000000) (disch := first | omega | (simp only [AH.size_new, AH.size_put] <;> omega) | fail) only [amX Tryd.prog ro X, amR Tryd.prog ro X, amS, seval, reduceCtorEq, ty3, ty4, ty39, ty40, ty42, u1, u2, u3, u4, u5, u6, u7, u8, k3']
        refine ⟨_, G1 ++ G2, by rw [dropR_0 k1' k2 k3], ?_, fr.mono (by first | omega | (simp only [AH.size_new, AH.size_put] <;> omega)) (by first | omega | (simp only [AH.size_new, AH.size_put] <;> omega)), (by ((repeat' (first | exact Ext.refl _ | assumption | refine Ext.trans ?_ (Ext.new _ _) | refine Ext.put ?_ ?_ _ | refine Ext.trans ?_ (by assumption))) <;> (first | omega | (simp only [AH.size_new, AH.size_put] <;> omega))))⟩
        rw [dropR_0 k1' k2 k3]
        exact rep_Space.2 ⟨t1, t2, G1, G2, rfl, rfl, (q1.ext (by ((repeat' (first | exact Ext.refl _ | assumption | refine Ext.trans ?_ (Ext.new _ _) | refine Ext.put ?_ ?_ _ | refine Ext.trans ?_ (by assumption))) <;> (first | omega | (simp only [AH.size_new, AH.size_put] <;> omega))))).extx ((ExtX.refl [A.size + 1] _).put (by simp) _) (fun b hb => by have := fr.lo b (by simp [hb]); simp; omega), (q2.ext (by ((repeat' (first | exact Ext.refl _ | assumption | refine Ext.trans ?_ (Ext.new _ _) | refine Ext.put ?_ ?_ _ | refine Ext.trans ?_ (by assumption))) <;> (first | omega | (simp only [AH.size_new, AH.size_put] <;> omega))))).extx ((ExtX.refl [A.size + 1] _).put (by simp) _) (fun b hb => by have := fr.lo b (by simp [hb]); simp; omega)⟩
      · have k3' : ((t1.len : Int) + t2.len = s1.len + s2.len) := by
          rw [m1, m2, hl1, hl2]; exact (lies_size x n).2 k3
        simp (maxSteps := 2000000) (disch := first | omega | (simp only [AH.size_new, AH.size_put] <;> omega) | fail) only [amX Tryd.prog ro X, amR Tryd.prog ro X, amS, seval, reduceCtorEq, ty3, ty4, ty39, ty40, ty42, u1, u2, u3, u4, u5, u6, u7, u8, k3']
        exact ⟨_, _, by rw [dropR_4 k1' k2 k3], by rw [dropR_4 k1' k2 k3]; exact zeroSp_rep _, Fresh.nil _ _, (by ((repeat' (first | exact Ext.refl _ | assumption | refine Ext.trans ?_ (Ext.new _ _) | refine Ext.put ?_ ?_ _ | refine Ext.trans ?_ (by assumption))) <;> (first | omega | (simp only [AH.size_new, AH.size_put] <;> omega))))⟩
    · simp (maxSteps := 2000000) (disch := first | omega | (simp only [AH.size_new, AH.size_put] <;> omega) | fail) only [amR Tryd.prog ro X, amS, seval, reduceCtorEq, ty3, ty4, ty39, ty40, ty42, hE1.get, k2]
      exact ⟨_, _, by rw [dropR_2 k1' k2], by rw [dropR_2 k1' k2]; exact zeroSp_rep _, Fresh.nil _ _, (by ((repeat' (first | exact Ext.refl _ | assumption | refine Ext.trans ?_ (Ext.new _ _) | refine Ext.put ?_ ?_ _ | refine Ext.trans ?_ (by assumption))) <;> (first | omega | (simp only [AH.size_new, AH.size_put] <;> omega))))⟩
  · simp (maxSteps := 2000000) (disch := first | omega | (simp only [AH.size_new, AH.size_put] <;> omega) | fail) only [amR Tryd.prog ro X, amS, seval, reduceCtorEq, ty3, ty4, ty39, ty40, ty42, hE1.get, k1]
    exact ⟨_, _, by rw [dropR_1 k1], by rw [dropR_1 k1]; exact zeroSp_rep _, Fresh.nil _ _, (by ((repeat' (first | exact Ext.refl _ | assumption | refine Ext.trans ?_ (Ext.new _ _) | refine Ext.put ?_ ?_ _ | refine Ext.trans ?_ (by assumption))) <;> (first | omega | (simp only [AH.size_new, AH.size_put] <;> omega))))⟩
theorem place_neg {α : Type} (n : ByteArray) (l : List (ByteArray × α)) : decide (placeOf n l < 0) = decide (∀ y ∈ l, y.1 ≠ n) := by
  rcases placeOf_range n l with ⟨h, k⟩ | ⟨i, hi, h, k⟩
  · rw [h, decide_eq_true k]; rfl
  · rw [h, decide_eq_false (by omega), decide_eq_false (fun q => q _ (List.getElem_mem hi) k)]
theorem spec_a (A : AH) (hro : ro ≤ A.size) (s1 s2 : Sl) (x : TSpace) (F1 F2 : List Nat) (h1 : SlR A s1 x.1 F1) (h2 : SlR A s2 x.2 F2) (hl1' : x.1.length < 4294967296) (hl2' : x.2.length < 4294967296) (hp : ∀ t ∈ x.2, t.2.length < 4294967296) (n : ByteArray) :
    ACalls Tryd.prog ro X 47 [.agg #[s1.v, s2.v], .string n] A (fun r A' => ∃ cs G, r = .ret (.tuple #[.agg cs.toArray, .int .i64 (dropR x n).2]) ∧ Dat.rep A' (dropR x n).1 cs G ∧ Fresh A G A' ∧ Ext A A') := by
  refine ACalls.enterQ (rs := [.cell 4 42, .tmp 5]) Tryd.func47 rfl (by kernel_rfl) rfl ?_
  have hl1 := h1.len
  have hl2 := h2.len
  simp (maxSteps := 2000000) (disch := first | omega | (simp only [AH.size_new, AH.size_put] <;> omega) | fail) only [amR Tryd.prog ro X, amS, seval, reduceCtorEq, ty3, ty4, ty39, ty40, ty42]
  refine (Space.specCheck_a _ (by first | omega | (simp only [AH.size_new, AH.size_put] <;> omega)) s1 s2 x F1 F2 (h1.ext (by ((repeat' (first | exact Ext.refl _ | assumption | refine Ext.trans ?_ (Ext.new _ _) | refine Ext.put ?_ ?_ _ | refine Ext.trans ?_ (by assumption))) <;> (first | omega | (simp only [AH.size_new, AH.size_put] <;> omega))))) (h2.ext (by ((repeat' (first | exact Ext.refl _ | assumption | refine Ext.trans ?_ (Ext.new _ _) | refine Ext.put ?_ ?_ _ | refine Ext.trans ?_ (by assumption))) <;> (first | omega | (simp only [AH.size_new, AH.size_put] <;> omega))))) (by omega) (by omega) (fun t ht => by have := hp t ht; omega)).mono ?_
  rintro r A1 ⟨rfl, hE1⟩
  have v1 := hE1.size
  simp only [AH.size_new] at v1
  by_cases k1 : spaceCode x = 0
  · simp (maxSteps := 2000000) (disch := first | omega | (simp only [AH.size_new, AH.size_put] <;> omega) | fail) only [amR Tryd.prog ro X, amS, seval, reduceCtorEq, ty3, ty4, ty39, ty40, ty42, hE1.get, k1]
    refine (Store.spec.l2NameOk_a _ n).mono ?_
    rintro r A2 ⟨rfl, rfl⟩
    have k1' : ¬ spaceCode x ≠ 0 := fun h => h k1
    by_cases k2 : NameOk n
    · simp (maxSteps := 2000000) (disch := first | omega | (simp only [AH.size_new, AH.size_put] <;> omega) | fail) only [amR Tryd.prog ro X, amS, seval, reduceCtorEq, ty3, ty4, ty39, ty40, ty42, hE1.get, k2]
      refine (l3Source_a _ (by first | omega | (simp only [AH.size_new, AH.size_put] <;> omega)) s1 s2 x F1 (h1.ext (by ((repeat' (first | exact Ext.refl _ | assumption | refine Ext.trans ?_ (Ext.new _ _) | refine Ext.put ?_ ?_ _ | refine Ext.trans ?_ (by assumption))) <;> (first | omega | (simp only [AH.size_new, AH.size_put] <;> omega))))) n (by omega)).mono ?_
      rintro r A3 ⟨rfl, hE3⟩
      have v3 := hE3.size
      have e1 := place_neg n x.1
      have e2 := place_neg n x.2
      by_cases k3 : ∀ y ∈ x.1, y.1 ≠ n
      · rw [decide_eq_true k3] at e1
        simp (maxSteps := 2000000) (disch := first | omega | (simp only [AH.size_new, AH.size_put] <;> omega) | fail) only [amR Tryd.prog ro X, amS, seval, reduceCtorEq, ty3, ty4, ty39, ty40, ty42, hE1.get, hE3.get, e1]
        refine (Space.l3Target_a _ (by first | omega | (simp only [AH.size_new, AH.size_put] <;> omega)) s1 s2 x F2 (h2.ext (by ((repeat' (first | exact Ext.refl _ | assumption | refine Ext.trans ?_ (Ext.new _ _) | refine Ext.put ?_ ?_ _ | refine Ext.trans ?_ (by assumption))) <;> (first | omega | (simp only [AH.size_new, AH.size_put] <;> omega))))) n (by omega)).mono ?_
        rintro r A4 ⟨rfl, hE4⟩
        have v4 := hE4.size
        by_cases k4 : ∀ y ∈ x.2, y.1 ≠ n
        · rw [decide_eq_true k4] at e2
          have kl : ¬ lies x n := fun h => h ⟨k3, k4⟩
          simp (maxSteps := 2000000) (disch := first | omega | (simp only [AH.size_new, AH.size_put] <;> omega) | fail) only [amR Tryd.prog ro X, amS, seval, reduceCtorEq, ty3, ty4, ty39, ty40, ty42, hE1.get, hE3.get, hE4.get, e1, e2]
          exact ⟨_, _, by rw [dropR_4 k1' k2 kl], by rw [dropR_4 k1' k2 kl]; exact zeroSp_rep _, Fresh.nil _ _, (by ((repeat' (first | exact Ext.refl _ | assumption | refine Ext.trans ?_ (Ext.new _ _) | refine Ext.put ?_ ?_ _ | refine Ext.trans ?_ (by assumption))) <;> (first | omega | (simp only [AH.size_new, AH.size_put] <;> omega))))⟩
        · rw [decide_eq_false k4] at e2
          have kl : lies x n := fun h => k4 h.2
          simp (maxSteps := 2000000) (disch := first | omega | (simp only [AH.size_new, AH.size_put] <;> omega) | fail) only [amR Tryd.prog ro X, amS, seval, reduceCtorEq, ty3, ty4, ty39, ty40, ty42, hE1.get, hE3.get, hE4.get, e1, e2]
          refine (l3Without_a _ (by first | omega | (simp only [AH.size_new, AH.size_put] <;> omega)) s1 s2 x F1 F2 (h1.ext (by ((repeat' (first | exact Ext.refl _ | assumption | refine Ext.trans ?_ (Ext.new _ _) | refine Ext.put ?_ ?_ _ | refine Ext.trans ?_ (by assumption))) <;> (first | omega | (simp only [AH.size_new, AH.size_put] <;> omega))))) (h2.ext (by ((repeat' (first | exact Ext.refl _ | assumption | refine Ext.trans ?_ (Ext.new _ _) | refine Ext.put ?_ ?_ _ | refine Ext.trans ?_ (by assumption))) <;> (first | omega | (simp only [AH.size_new, AH.size_put] <;> omega))))) hl1' hl2' hp n).mono ?_
          rintro r A5 ⟨t1, t2, G1, G2, rfl, q1, q2, fr, hE5⟩
          have v5 := hE5.size
          simp (maxSteps := 2000000) (disch := first | omega | (simp only [AH.size_new, AH.size_put] <;> omega) | fail) only [amR Tryd.prog ro X, amS, seval, reduceCtorEq, ty3, ty4, ty39, ty40, ty42, hE1.get, hE3.get, hE4.get, hE5.get]
          refine ⟨_, G1 ++ G2, by rw [dropR_0 k1' k2 kl], ?_, fr.mono (by first | omega | (simp only [AH.size_new, AH.size_put] <;> omega)) (by first | omega | (simp only [AH.size_new, AH.size_put] <;> omega)), (by ((repeat' (first | exact Ext.refl _ | assumption | refine Ext.trans ?_ (Ext.new _ _) | refine Ext.put ?_ ?_ _ | refine Ext.trans ?_ (by assumption))) <;> (first | omega | (simp only [AH.size_new, AH.size_put] <;> omega))))⟩
          rw [dropR_0 k1' k2 kl]
          exact rep_Space.2 ⟨t1, t2, G1, G2, rfl, rfl, (q1.ext (by ((repeat' (first | exact Ext.refl _ | assumption | refine Ext.trans ?_ (Ext.new _ _) | refine Ext.put ?_ ?_ _ | refine Ext.trans ?_ (by assumption))) <;> (first | omega | (simp only [AH.size_new, AH.size_put] <;> omega))))).extx ((ExtX.refl [A.size + 1] _).put (by simp) _) (fun b hb => by have := fr.lo b (by simp [hb]); simp; omega), (q2.ext (by ((repeat' (first | exact Ext.refl _ | assumption | refine Ext.trans ?_ (Ext.new _ _) | refine Ext.put ?_ ?_ _ | refine Ext.trans ?_ (by assumption))) <;> (first | omega | (simp only [AH.size_new, AH.size_put] <;> omega))))).extx ((ExtX.refl [A.size + 1] _).put (by simp) _) (fun b hb => by have := fr.lo b (by simp [hb]); simp; omega)⟩
      · rw [decide_eq_false k3] at e1
        have kl : lies x n := fun h => k3 h.1
        simp (maxSteps := 2000000) (disch := first | omega | (simp only [AH.size_new, AH.size_put] <;> omega) | fail) only [amR Tryd.prog ro X, amS, seval, reduceCtorEq, ty3, ty4, ty39, ty40, ty42, hE1.get, hE3.get, e1]
        refine (l3Without_a _ (by first | omega | (simp only [AH.size_new, AH.size_put] <;> omega)) s1 s2 x F1 F2 (h1.ext (by ((repeat' (first | exact Ext.refl _ | assumption | refine Ext.trans ?_ (Ext.new _ _) | refine Ext.put ?_ ?_ _ | refine Ext.trans ?_ (by assumption))) <;> (first | omega | (simp only [AH.size_new, AH.size_put] <;> omega))))) (h2.ext (by ((repeat' (first | exact Ext.refl _ | assumption | refine Ext.trans ?_ (Ext.new _ _) | refine Ext.put ?_ ?_ _ | refine Ext.trans ?_ (by assumption))) <;> (first | omega | (simp only [AH.size_new, AH.size_put] <;> omega))))) hl1' hl2' hp n).mono ?_
        rintro r A5 ⟨t1, t2, G1, G2, rfl, q1, q2, fr, hE5⟩
        have v5 := hE5.size
        simp (maxSteps := 2000000) (disch := first | omega | (simp only [AH.size_new, AH.size_put] <;> omega) | fail) only [amR Tryd.prog ro X, amS, seval, reduceCtorEq, ty3, ty4, ty39, ty40, ty42, hE1.get, hE3.get, hE5.get]
        refine ⟨_, G1 ++ G2, by rw [dropR_0 k1' k2 kl], ?_, fr.mono (by first | omega | (simp only [AH.size_new, AH.size_put] <;> omega)) (by first | omega | (simp only [AH.size_new, AH.size_put] <;> omega)), (by ((repeat' (first | exact Ext.refl _ | assumption | refine Ext.trans ?_ (Ext.new _ _) | refine Ext.put ?_ ?_ _ | refine Ext.trans ?_ (by assumption))) <;> (first | omega | (simp only [AH.size_new, AH.size_put] <;> omega))))⟩
        rw [dropR_0 k1' k2 kl]
        exact rep_Space.2 ⟨t1, t2, G1, G2, rfl, rfl, (q1.ext (by ((repeat' (first | exact Ext.refl _ | assumption | refine Ext.trans ?_ (Ext.new _ _) | refine Ext.put ?_ ?_ _ | refine Ext.trans ?_ (by assumption))) <;> (first | omega | (simp only [AH.size_new, AH.size_put] <;> omega))))).extx ((ExtX.refl [A.size + 1] _).put (by simp) _) (fun b hb => by have := fr.lo b (by simp [hb]); simp; omega), (q2.ext (by ((repeat' (first | exact Ext.refl _ | assumption | refine Ext.trans ?_ (Ext.new _ _) | refine Ext.put ?_ ?_ _ | refine Ext.trans ?_ (by assumption))) <;> (first | omega | (simp only [AH.size_new, AH.size_put] <;> omega))))).extx ((ExtX.refl [A.size + 1] _).put (by simp) _) (fun b hb => by have := fr.lo b (by simp [hb]); simp; omega)⟩
    · simp (maxSteps := 2000000) (disch := first | omega | (simp only [AH.size_new, AH.size_put] <;> omega) | fail) only [amR Tryd.prog ro X, amS, seval, reduceCtorEq, ty3, ty4, ty39, ty40, ty42, hE1.get, k2]
      exact ⟨_, _, by rw [dropR_2 k1' k2], by rw [dropR_2 k1' k2]; exact zeroSp_rep _, Fresh.nil _ _, (by ((repeat' (first | exact Ext.refl _ | assumption | refine Ext.trans ?_ (Ext.new _ _) | refine Ext.put ?_ ?_ _ | refine Ext.trans ?_ (by assumption))) <;> (first | omega | (simp only [AH.size_new, AH.size_put] <;> omega))))⟩
  · simp (maxSteps := 2000000) (disch := first | omega | (simp only [AH.size_new, AH.size_put] <;> omega) | fail) only [amR Tryd.prog ro X, amS, seval, reduceCtorEq, ty3, ty4, ty39, ty40, ty42, hE1.get, k1]
    exact ⟨_, _, by rw [dropR_1 k1], by rw [dropR_1 k1]; exact zeroSp_rep _, Fresh.nil _ _, (by ((repeat' (first | exact Ext.refl _ | assumption | refine Ext.trans ?_ (Ext.new _ _) | refine Ext.put ?_ ?_ _ | refine Ext.trans ?_ (by assumption))) <;> (first | omega | (simp only [AH.size_new, AH.size_put] <;> omega))))⟩
end Go.Proofs.YtcdnlghlbljopaaDoor.Amu.Drop
