/- The laws' own functions: marks in the program's data, and whether they stand (printed by law.py). -/
import Derived.Test.YtmelgjblkmbhjaaGreatDoorAmuLawA
namespace Go.Proofs.YtmelgjblkmbhjaaGreatDoor.Amu.Law
open Go Go.AM Go.Proofs
set_option linter.unusedVariables false
set_option linter.unusedSimpArgs false
namespace B
theorem ty3 : tKind Tryz.prog 3 = some (.int .i64) ∧ tSize Tryz.prog 3 = some 1 ∧ tAgg Tryz.prog 3 = some false ∧ tZero Tryz.prog 3 = some (.int .i64 0) := ⟨by kernel_rfl, by kernel_rfl, by kernel_rfl, by kernel_rfl⟩
theorem ty4 : tKind Tryz.prog 4 = some (.bool) ∧ tSize Tryz.prog 4 = some 1 ∧ tAgg Tryz.prog 4 = some false ∧ tZero Tryz.prog 4 = some (.bool false) := ⟨by kernel_rfl, by kernel_rfl, by kernel_rfl, by kernel_rfl⟩
theorem ty9 : tKind Tryz.prog 9 = some (.str) ∧ tSize Tryz.prog 9 = some 1 ∧ tAgg Tryz.prog 9 = some false ∧ tZero Tryz.prog 9 = some (.string ByteArray.empty) := ⟨by kernel_rfl, by kernel_rfl, by kernel_rfl, by kernel_rfl⟩
theorem ty22 : tKind Tryz.prog 22 = some (.slice) ∧ tSize Tryz.prog 22 = some 1 ∧ tAgg Tryz.prog 22 = some false ∧ tZero Tryz.prog 22 = some (.slice none 0 0) ∧ tElem Tryz.prog 22 = some 9 ∧ tElemSize Tryz.prog 22 = some 1 ∧ tBytes Tryz.prog 22 = false := ⟨by kernel_rfl, by kernel_rfl, by kernel_rfl, by kernel_rfl, by kernel_rfl, by kernel_rfl, by kernel_rfl⟩
theorem ty27 : tKind Tryz.prog 27 = some (.slice) ∧ tSize Tryz.prog 27 = some 1 ∧ tAgg Tryz.prog 27 = some false ∧ tZero Tryz.prog 27 = some (.slice none 0 0) ∧ tElem Tryz.prog 27 = some 61 ∧ tElemSize Tryz.prog 27 = some 3 ∧ tBytes Tryz.prog 27 = false := ⟨by kernel_rfl, by kernel_rfl, by kernel_rfl, by kernel_rfl, by kernel_rfl, by kernel_rfl, by kernel_rfl⟩
theorem ty29 : tKind Tryz.prog 29 = some (.struct) ∧ tSize Tryz.prog 29 = some 3 ∧ tAgg Tryz.prog 29 = some true ∧ tZero Tryz.prog 29 = some (.agg #[.int .i64 0, .slice none 0 0, .slice none 0 0]) ∧ tField Tryz.prog 29 0 = some (0, 3) ∧ tField Tryz.prog 29 1 = some (1, 22) ∧ tField Tryz.prog 29 2 = some (2, 27) ∧ tPlaces Tryz.prog 29 = some [(0, 1), (1, 1), (2, 1)] := ⟨by kernel_rfl, by kernel_rfl, by kernel_rfl, by kernel_rfl, by kernel_rfl, by kernel_rfl, by kernel_rfl, by kernel_rfl⟩
theorem ty56 : tKind Tryz.prog 56 = some (.slice) ∧ tSize Tryz.prog 56 = some 1 ∧ tAgg Tryz.prog 56 = some false ∧ tZero Tryz.prog 56 = some (.slice none 0 0) ∧ tElem Tryz.prog 56 = some 106 ∧ tElemSize Tryz.prog 56 = some 3 ∧ tBytes Tryz.prog 56 = false := ⟨by kernel_rfl, by kernel_rfl, by kernel_rfl, by kernel_rfl, by kernel_rfl, by kernel_rfl, by kernel_rfl⟩
theorem ty58 : tKind Tryz.prog 58 = some (.struct) ∧ tSize Tryz.prog 58 = some 1 ∧ tAgg Tryz.prog 58 = some true ∧ tZero Tryz.prog 58 = some (.agg #[.slice none 0 0]) ∧ tField Tryz.prog 58 0 = some (0, 56) ∧ tPlaces Tryz.prog 58 = some [(0, 1)] := ⟨by kernel_rfl, by kernel_rfl, by kernel_rfl, by kernel_rfl, by kernel_rfl, by kernel_rfl⟩
theorem ty59 : tKind Tryz.prog 59 = some (.slice) ∧ tSize Tryz.prog 59 = some 1 ∧ tAgg Tryz.prog 59 = some false ∧ tZero Tryz.prog 59 = some (.slice none 0 0) ∧ tElem Tryz.prog 59 = some 110 ∧ tElemSize Tryz.prog 59 = some 3 ∧ tBytes Tryz.prog 59 = false := ⟨by kernel_rfl, by kernel_rfl, by kernel_rfl, by kernel_rfl, by kernel_rfl, by kernel_rfl, by kernel_rfl⟩
theorem ty61 : tKind Tryz.prog 61 = some (.struct) ∧ tSize Tryz.prog 61 = some 3 ∧ tAgg Tryz.prog 61 = some true ∧ tZero Tryz.prog 61 = some (.agg #[.slice none 0 0, .slice none 0 0, .string ByteArray.empty]) ∧ tField Tryz.prog 61 0 = some (0, 58) ∧ tField Tryz.prog 61 1 = some (1, 59) ∧ tField Tryz.prog 61 2 = some (2, 9) ∧ tPlaces Tryz.prog 61 = some [(0, 1), (1, 1), (2, 1)] := ⟨by kernel_rfl, by kernel_rfl, by kernel_rfl, by kernel_rfl, by kernel_rfl, by kernel_rfl, by kernel_rfl, by kernel_rfl⟩
theorem ty106 : tKind Tryz.prog 106 = some (.struct) ∧ tSize Tryz.prog 106 = some 3 ∧ tAgg Tryz.prog 106 = some true ∧ tZero Tryz.prog 106 = some (.agg #[.int .i64 0, .string ByteArray.empty, .int .i64 0]) ∧ tField Tryz.prog 106 0 = some (0, 3) ∧ tField Tryz.prog 106 1 = some (1, 9) ∧ tField Tryz.prog 106 2 = some (2, 3) ∧ tPlaces Tryz.prog 106 = some [(0, 1), (1, 1), (2, 1)] := ⟨by kernel_rfl, by kernel_rfl, by kernel_rfl, by kernel_rfl, by kernel_rfl, by kernel_rfl, by kernel_rfl, by kernel_rfl⟩
theorem ty110 : tKind Tryz.prog 110 = some (.struct) ∧ tSize Tryz.prog 110 = some 3 ∧ tAgg Tryz.prog 110 = some true ∧ tZero Tryz.prog 110 = some (.agg #[.string ByteArray.empty, .bool false, .string ByteArray.empty]) ∧ tField Tryz.prog 110 0 = some (0, 9) ∧ tField Tryz.prog 110 1 = some (1, 4) ∧ tField Tryz.prog 110 2 = some (2, 9) ∧ tPlaces Tryz.prog 110 = some [(0, 1), (1, 1), (2, 1)] := ⟨by kernel_rfl, by kernel_rfl, by kernel_rfl, by kernel_rfl, by kernel_rfl, by kernel_rfl, by kernel_rfl, by kernel_rfl⟩

end B
open B
variable {ro : Nat} {X : FuncId → List Value → AH → ARes → AH → Prop}
set_option maxRecDepth 10000
theorem mkL_str (A : AH) (hro : ro ≤ A.size) (s : Sl) (l : List ByteArray) (F : List Nat) (hs : SlR A s l F) (hF : ∀ b, b ∈ F → ro ≤ b) (hN : F.Nodup) (k : Int) (hk : 0 ≤ k ∧ k + nmL l < 281474976710656) :
    ACalls Tryz.prog ro X 32 [s.v, .int .i64 k] A (fun r A' => r = .ret (.int .i64 (k + nmL l)) ∧ SlR A' s (mkL k l) F ∧ ExtX F A A') := by
  have := nmL_str l
  refine (Strs.markStringS_a A hro s l F hs hF hN (by omega) k (by omega)).mono fun r A' h => ?_
  rw [AM.mkL_str, this]
  exact h
theorem hdL_str (A : AH) (hro : ro ≤ A.size) (s : Sl) (l : List ByteArray) (F : List Nat) (k : Int) (hs : SlR A s (mkL k l) F) (hk : 0 ≤ k ∧ k + nmL l < 281474976710656) :
    ACalls Tryz.prog ro X 34 [s.v, .int .i64 k] A (fun r A' => r = .ret (.int .i64 (k + nmL l)) ∧ Ext A A') := by
  have := nmL_str l
  refine (Strs.heldStringS_a A hro s _ F hs (by rw [mkL_length]; omega) k (by omega)).mono fun r A' h => ?_
  rw [AM.mkL_str, mkStrs_length, if_pos rfl] at h
  rw [this]
  exact h
theorem mkL_Ins (A : AH) (hro : ro ≤ A.size) (s : Sl) (l : List TIns) (F : List Nat) (hs : SlR A s l F) (hF : ∀ b, b ∈ F → ro ≤ b) (hN : F.Nodup) (k : Int) (hk : 0 ≤ k ∧ k + nmL l < 281474976710656) :
    ACalls Tryz.prog ro X 81 [s.v, .int .i64 k] A (fun r A' => r = .ret (.int .i64 (k + nmL l)) ∧ SlR A' s (mkL k l) F ∧ ExtX F A A') := by
  have hw : Dat.w TIns = 3 := rfl
  have hll : l.length ≤ nmL l := nmL_length l fun x => by show 1 ≤ 1 + (1 + (1)); omega
  refine ACalls.enterQ (rs := [.tmp 4]) Tryz.func81 rfl (by kernel_rfl) rfl ?_
  simp (maxSteps := 2000000) (disch := first | omega | (simp only [AH.size_new, AH.size_put] <;> omega) | fail) only [amR Tryz.prog ro X, amS, seval, reduceCtorEq, ty3, ty9, ty56, ty106]
  refine Wp.loopC (fun n e A' => ExtX F A A' ∧ e 0 = s.v ∧ ∃ i : Nat, i ≤ l.length ∧ n = l.length - i ∧ e 5 = .int .i64 i ∧ e 1 = .int .i64 (k + nmL (l.take i)) ∧ SlR A' s (mkL k (l.take i) ++ l.drop i) F) (l.length - 0) ?_ ?_
  · simp (maxSteps := 2000000) (disch := first | omega | (simp only [AH.size_new, AH.size_put] <;> omega) | fail) only [amV, amH, amQ, amL, amN Tryz.prog, amS, seval, reduceCtorEq, ty3, ty9, ty56, ty106]
    exact ⟨ExtX.refl F A, 0, by omega, rfl, rfl, by simp [nmL], by simpa [mkL] using hs⟩
  · rintro n e A' ⟨hE, h0, i, hi, rfl, h5, h1, hs'⟩
    have hlen : s.len = l.length := by rw [hs'.len, List.length_append, mkL_length, List.length_take, List.length_drop]; omega
    have hz := hE.size
    simp (maxSteps := 2000000) (disch := first | omega | (simp only [AH.size_new, AH.size_put] <;> omega) | fail) only [amR Tryz.prog ro X, amS, seval, reduceCtorEq, ty3, ty9, ty56, ty106, h0, h5, hlen]
    refine CondB.split (fun h => ?_) (fun h => ?_)
    · have hil : i < l.length := by simp at h; omega
      have hnt := nmL_take_succ l i hil
      have hnl := nmL_take_le l (i + 1)
      have hnm : Mk.nm l[i] = 1 + (1 + (1)) := rfl
      have e0x : Mk.nm l[i].1 = 1 := rfl
      have e1x : Mk.nm l[i].2.1 = 1 := rfl
      have e2x : Mk.nm l[i].2.2 = 1 := rfl
      obtain ⟨c, Fi, ci, n1, b1, i1, hb, g1, hc, hrow, hr, hNi, q2, q3, hup⟩ := hs'.step hN (by rw [mkL_length, List.length_take, Nat.min_eq_left hi]) hil
      rw [hw] at g1 hc hrow hup
      have hrb := hF _ hb
      obtain ⟨hci, hFi, z1⟩ := rep_Ins.1 hr
      rw [hci] at hrow
      have r0 := row_get hrow 0 (by omega)
      have r1 := row_get hrow 1 (by omega)
      have r2 := row_get hrow 2 (by omega)
      simp only [List.getElem?_cons_zero, List.getElem?_cons_succ, Nat.add_zero] at r0 r1 r2
      simp (maxSteps := 2000000) (disch := first | omega | (simp only [AH.size_new, AH.size_put] <;> omega) | fail) only [amR Tryz.prog ro X, amS, seval, reduceCtorEq, ty3, ty9, ty56, ty106, h0, h5, h1, n1, g1, set_miss, r0, r1, r2]
      refine (Strs.markText_a _ (by first | omega | (simp only [AH.size_new, AH.size_put] <;> omega)) _ (by omega)).mono ?_
      rintro r B1 ⟨rfl, hE1⟩
      have v1 := hE1.size
      try simp only [AH.size_new, AH.size_put] at v1
      simp (maxSteps := 2000000) (disch := first | omega | (simp only [AH.size_new, AH.size_put] <;> omega) | fail) only [amR Tryz.prog ro X, amS, seval, reduceCtorEq, ty3, ty9, ty56, ty106, h0, h5, h1, n1, g1, set_miss, r0, r1, r2, hE1.get]
      refine ⟨l.length - (i + 1), by omega, by ((repeat' (first | assumption | exact ExtX.refl _ _ | refine ExtX.put ?_ ?_ _ | refine ExtX.new ?_ _ | refine ExtX.trans ?_ (Ext.x (by assumption) _) | refine ExtX.trans ?_ (ExtX.mono (by assumption) ?_))) <;> (first | omega | assumption | (intro b hb2; simp [hb2]; done) | (intro b hb2; exact q3 b (by simp [hb2])) | (simp; done))), i + 1, by omega, rfl, by congr 1 <;> omega, by rw [hnt, hnm]; congr 1; omega, ?_⟩
      rw [mkL_take_succ _ _ _ hil]
      refine hup _ _ _ (by ((repeat' (first | assumption | exact ExtX.refl _ _ | refine ExtX.put ?_ ?_ _ | refine ExtX.new ?_ _ | refine ExtX.trans ?_ (Ext.x (by assumption) _) | refine ExtX.trans ?_ (ExtX.mono (by assumption) ?_))) <;> (first | omega | assumption | (intro b hb2; simp [hb2]; done) | (intro b hb2; exact q3 b (by simp [hb2])) | (simp; done)))) (AH.get_put_self _ _ _) (by simp only [List.length_set]) (fun j hj => by simp (disch := omega) only [set_miss]) (rep_Ins.2 ⟨row_of rfl (by simp only [List.length_set]; omega) (fun j hj => by
        have hj2 : j = 0 ∨ j = 1 ∨ j = 2 := by omega
        rcases hj2 with rfl | rfl | rfl <;> (try simp (disch := first | omega | (simp only [List.length_set] <;> omega)) only [set_miss, set_hit, Nat.add_zero]) <;> (try simp only [r0, r1, r2]) <;> rfl), hFi, mkText_size _ (by have : ((1 : Nat) : Int) = 1 := rfl; omega)⟩)
    · have hil : i = l.length := by simp at h; omega
      subst hil
      simp (maxSteps := 2000000) (disch := first | omega | (simp only [AH.size_new, AH.size_put] <;> omega) | fail) only [amR Tryz.prog ro X, amS, seval, reduceCtorEq, ty3, ty9, ty56, ty106, h1]
      rw [List.take_length] at h1
      rw [List.drop_length, List.append_nil, List.take_length] at hs'
      rw [List.take_length]
      exact ⟨rfl, hs', hE⟩
theorem hdL_Ins (A : AH) (hro : ro ≤ A.size) (s : Sl) (l : List TIns) (F : List Nat) (k : Int) (hs : SlR A s (mkL k l) F) (hk : 0 ≤ k ∧ k + nmL l < 281474976710656) :
    ACalls Tryz.prog ro X 83 [s.v, .int .i64 k] A (fun r A' => r = .ret (.int .i64 (k + nmL l)) ∧ Ext A A') := by
  have hw : Dat.w TIns = 3 := rfl
  have hlen : s.len = l.length := by rw [hs.len, mkL_length]
  have hll : l.length ≤ nmL l := nmL_length l fun x => by show 1 ≤ 1 + (1 + (1)); omega
  refine ACalls.enterQ (rs := [.tmp 4]) Tryz.func83 rfl (by kernel_rfl) rfl ?_
  simp (maxSteps := 2000000) (disch := first | omega | (simp only [AH.size_new, AH.size_put] <;> omega) | fail) only [amR Tryz.prog ro X, amS, seval, reduceCtorEq, ty3, ty9, ty56, ty106]
  refine Wp.loopC (fun n e A' => Ext A A' ∧ e 0 = s.v ∧ ∃ i : Nat, i ≤ l.length ∧ n = l.length - i ∧ e 5 = .int .i64 i ∧ e 1 = .int .i64 (k + nmL (l.take i))) (l.length - 0) ?_ ?_
  · simp (maxSteps := 2000000) (disch := first | omega | (simp only [AH.size_new, AH.size_put] <;> omega) | fail) only [amV, amH, amQ, amL, amN Tryz.prog, amS, seval, reduceCtorEq, ty3, ty9, ty56, ty106]
    exact ⟨Ext.refl A, 0, by omega, rfl, rfl, by simp [nmL]⟩
  · rintro n e A' ⟨hE, h0, i, hi, rfl, h5, h1⟩
    have hz := hE.size
    have hs' := hs.ext hE
    simp (maxSteps := 2000000) (disch := first | omega | (simp only [AH.size_new, AH.size_put] <;> omega) | fail) only [amR Tryz.prog ro X, amS, seval, reduceCtorEq, ty3, ty9, ty56, ty106, h0, h5, hlen]
    refine CondB.split (fun h => ?_) (fun h => ?_)
    · have hil : i < l.length := by simp at h; omega
      have hnt := nmL_take_succ l i hil
      have hnl := nmL_take_le l (i + 1)
      have hnm : Mk.nm l[i] = 1 + (1 + (1)) := rfl
      obtain ⟨n1, b1, m1, i1, cs, Fi, c1, q1, _⟩ := hs'.row (i := i) (by rw [mkL_length]; exact hil)
      rw [aRow_eq, hw] at c1
      rw [mkL_get] at q1
      obtain ⟨c, e', g1, g2, g3⟩ := rowK_inv c1
      obtain ⟨hci, hFi, z1⟩ := rep_Ins.1 q1
      rw [hci] at g3
      have r0 := row_get g3 0 (by omega)
      have r1 := row_get g3 1 (by omega)
      have r2 := row_get g3 2 (by omega)
      simp only [List.getElem?_cons_zero, List.getElem?_cons_succ, Nat.add_zero] at r0 r1 r2
      have r0 : c[s.o + i * 3]? = some (.int .i64 (k + nmL (l.take i))) := r0
      have r1 : c[s.o + i * 3 + 1]? = some (.string (mkText (k + nmL (l.take i) + 1))) := r1
      have r2 : c[s.o + i * 3 + 2]? = some (.int .i64 (k + nmL (l.take i) + 1 + 1)) := r2
      simp (maxSteps := 2000000) (disch := first | omega | (simp only [AH.size_new, AH.size_put] <;> omega) | fail) only [amR Tryz.prog ro X, amS, seval, reduceCtorEq, ty3, ty9, ty56, ty106, h0, h5, h1, n1, g1, r0, r1, r2]
      refine Wp.runG [6] (by kernel_rfl) (.inl (by kernel_rfl)) ?_
      simp (maxSteps := 2000000) (disch := first | omega | (simp only [AH.size_new, AH.size_put] <;> omega) | fail) only [amR Tryz.prog ro X, amS, seval, reduceCtorEq, ty3, ty9, ty56, ty106, h0, h5, h1, n1, g1, r0, r1, r2]
      refine (Strs.markText_a _ (by first | omega | (simp only [AH.size_new, AH.size_put] <;> omega)) _ (by omega)).mono ?_
      rintro r B1 ⟨rfl, hE1⟩
      have v1 := hE1.size
      simp (maxSteps := 2000000) (disch := first | omega | (simp only [AH.size_new, AH.size_put] <;> omega) | fail) only [amR Tryz.prog ro X, amS, seval, reduceCtorEq, ty3, ty9, ty56, ty106, h0, h5, h1, n1, g1, r0, r1, r2]
      refine ⟨fun b hb => hE1.get b hb, ?_⟩
      try simp (maxSteps := 2000000) (disch := first | omega | (simp only [AH.size_new, AH.size_put] <;> omega) | fail) only [amR Tryz.prog ro X, amS, seval, reduceCtorEq, ty3, ty9, ty56, ty106, h0, h5, h1, n1, g1, r0, r1, r2, hE1.get]
      refine ⟨l.length - (i + 1), by omega, by ((repeat' (first | exact Ext.refl _ | assumption | refine Ext.trans ?_ (Ext.new _ _) | refine Ext.put ?_ ?_ _ | refine Ext.trans ?_ (by assumption))) <;> (first | omega | (simp only [AH.size_new, AH.size_put] <;> omega))), i + 1, by omega, rfl, by congr 1 <;> omega, by rw [hnt, hnm]; congr 1; omega⟩
    · have hil : i = l.length := by simp at h; omega
      subst hil
      simp (maxSteps := 2000000) (disch := first | omega | (simp only [AH.size_new, AH.size_put] <;> omega) | fail) only [amR Tryz.prog ro X, amS, seval, reduceCtorEq, ty3, ty9, ty56, ty106, h1]
      rw [List.take_length]
      exact ⟨rfl, hE⟩
theorem mkL_Glance (A : AH) (hro : ro ≤ A.size) (s : Sl) (l : List TGlance) (F : List Nat) (hs : SlR A s l F) (hF : ∀ b, b ∈ F → ro ≤ b) (hN : F.Nodup) (k : Int) (hk : 0 ≤ k ∧ k + nmL l < 281474976710656) :
    ACalls Tryz.prog ro X 82 [s.v, .int .i64 k] A (fun r A' => r = .ret (.int .i64 (k + nmL l)) ∧ SlR A' s (mkL k l) F ∧ ExtX F A A') := by
  have hw : Dat.w TGlance = 3 := rfl
  have hll : l.length ≤ nmL l := nmL_length l fun x => by show 1 ≤ 1 + (1 + (1)); omega
  refine ACalls.enterQ (rs := [.tmp 4]) Tryz.func82 rfl (by kernel_rfl) rfl ?_
  simp (maxSteps := 2000000) (disch := first | omega | (simp only [AH.size_new, AH.size_put] <;> omega) | fail) only [amR Tryz.prog ro X, amS, seval, reduceCtorEq, ty3, ty4, ty9, ty59, ty110]
  refine Wp.loopC (fun n e A' => ExtX F A A' ∧ e 0 = s.v ∧ ∃ i : Nat, i ≤ l.length ∧ n = l.length - i ∧ e 5 = .int .i64 i ∧ e 1 = .int .i64 (k + nmL (l.take i)) ∧ SlR A' s (mkL k (l.take i) ++ l.drop i) F) (l.length - 0) ?_ ?_
  · simp (maxSteps := 2000000) (disch := first | omega | (simp only [AH.size_new, AH.size_put] <;> omega) | fail) only [amV, amH, amQ, amL, amN Tryz.prog, amS, seval, reduceCtorEq, ty3, ty4, ty9, ty59, ty110]
    exact ⟨ExtX.refl F A, 0, by omega, rfl, rfl, by simp [nmL], by simpa [mkL] using hs⟩
  · rintro n e A' ⟨hE, h0, i, hi, rfl, h5, h1, hs'⟩
    have hlen : s.len = l.length := by rw [hs'.len, List.length_append, mkL_length, List.length_take, List.length_drop]; omega
    have hz := hE.size
    simp (maxSteps := 2000000) (disch := first | omega | (simp only [AH.size_new, AH.size_put] <;> omega) | fail) only [amR Tryz.prog ro X, amS, seval, reduceCtorEq, ty3, ty4, ty9, ty59, ty110, h0, h5, hlen]
    refine CondB.split (fun h => ?_) (fun h => ?_)
    · have hil : i < l.length := by simp at h; omega
      have hnt := nmL_take_succ l i hil
      have hnl := nmL_take_le l (i + 1)
      have hnm : Mk.nm l[i] = 1 + (1 + (1)) := rfl
      have e0x : Mk.nm l[i].1 = 1 := rfl
      have e1x : Mk.nm l[i].2.1 = 1 := rfl
      have e2x : Mk.nm l[i].2.2 = 1 := rfl
      obtain ⟨c, Fi, ci, n1, b1, i1, hb, g1, hc, hrow, hr, hNi, q2, q3, hup⟩ := hs'.step hN (by rw [mkL_length, List.length_take, Nat.min_eq_left hi]) hil
      rw [hw] at g1 hc hrow hup
      have hrb := hF _ hb
      obtain ⟨hci, hFi, z1, z2⟩ := rep_Glance.1 hr
      rw [hci] at hrow
      have r0 := row_get hrow 0 (by omega)
      have r1 := row_get hrow 1 (by omega)
      have r2 := row_get hrow 2 (by omega)
      simp only [List.getElem?_cons_zero, List.getElem?_cons_succ, Nat.add_zero] at r0 r1 r2
      simp (maxSteps := 2000000) (disch := first | omega | (simp only [AH.size_new, AH.size_put] <;> omega) | fail) only [amR Tryz.prog ro X, amS, seval, reduceCtorEq, ty3, ty4, ty9, ty59, ty110, h0, h5, h1, n1, g1, set_miss, r0, r1, r2]
      refine (Strs.markText_a _ (by first | omega | (simp only [AH.size_new, AH.size_put] <;> omega)) _ (by omega)).mono ?_
      rintro r B1 ⟨rfl, hE1⟩
      have v1 := hE1.size
      try simp only [AH.size_new, AH.size_put] at v1
      simp (maxSteps := 2000000) (disch := first | omega | (simp only [AH.size_new, AH.size_put] <;> omega) | fail) only [amR Tryz.prog ro X, amS, seval, reduceCtorEq, ty3, ty4, ty9, ty59, ty110, h0, h5, h1, n1, g1, set_miss, r0, r1, r2, hE1.get]
      refine (Strs.markText_a _ (by first | omega | (simp only [AH.size_new, AH.size_put] <;> omega)) _ (by omega)).mono ?_
      rintro r B2 ⟨rfl, hE2⟩
      have v2 := hE2.size
      try simp only [AH.size_new, AH.size_put] at v2
      simp (maxSteps := 2000000) (disch := first | omega | (simp only [AH.size_new, AH.size_put] <;> omega) | fail) only [amR Tryz.prog ro X, amS, seval, reduceCtorEq, ty3, ty4, ty9, ty59, ty110, h0, h5, h1, n1, g1, set_miss, r0, r1, r2, hE1.get, hE2.get]
      refine ⟨l.length - (i + 1), by omega, by ((repeat' (first | assumption | exact ExtX.refl _ _ | refine ExtX.put ?_ ?_ _ | refine ExtX.new ?_ _ | refine ExtX.trans ?_ (Ext.x (by assumption) _) | refine ExtX.trans ?_ (ExtX.mono (by assumption) ?_))) <;> (first | omega | assumption | (intro b hb2; simp [hb2]; done) | (intro b hb2; exact q3 b (by simp [hb2])) | (simp; done))), i + 1, by omega, rfl, by congr 1 <;> omega, by rw [hnt, hnm]; congr 1; omega, ?_⟩
      rw [mkL_take_succ _ _ _ hil]
      refine hup _ _ _ (by ((repeat' (first | assumption | exact ExtX.refl _ _ | refine ExtX.put ?_ ?_ _ | refine ExtX.new ?_ _ | refine ExtX.trans ?_ (Ext.x (by assumption) _) | refine ExtX.trans ?_ (ExtX.mono (by assumption) ?_))) <;> (first | omega | assumption | (intro b hb2; simp [hb2]; done) | (intro b hb2; exact q3 b (by simp [hb2])) | (simp; done)))) (AH.get_put_self _ _ _) (by simp only [List.length_set]) (fun j hj => by simp (disch := omega) only [set_miss]) (rep_Glance.2 ⟨row_of rfl (by simp only [List.length_set]; omega) (fun j hj => by
        have hj2 : j = 0 ∨ j = 1 ∨ j = 2 := by omega
        rcases hj2 with rfl | rfl | rfl <;> (try simp (disch := first | omega | (simp only [List.length_set] <;> omega)) only [set_miss, set_hit, Nat.add_zero]) <;> (try simp only [r0, r1, r2]) <;> rfl), hFi, mkText_size _ (by have : ((1 : Nat) : Int) = 1 := rfl; omega), mkText_size _ (by have : ((1 : Nat) : Int) = 1 := rfl; omega)⟩)
    · have hil : i = l.length := by simp at h; omega
      subst hil
      simp (maxSteps := 2000000) (disch := first | omega | (simp only [AH.size_new, AH.size_put] <;> omega) | fail) only [amR Tryz.prog ro X, amS, seval, reduceCtorEq, ty3, ty4, ty9, ty59, ty110, h1]
      rw [List.take_length] at h1
      rw [List.drop_length, List.append_nil, List.take_length] at hs'
      rw [List.take_length]
      exact ⟨rfl, hs', hE⟩
theorem hdL_Glance (A : AH) (hro : ro ≤ A.size) (s : Sl) (l : List TGlance) (F : List Nat) (k : Int) (hs : SlR A s (mkL k l) F) (hk : 0 ≤ k ∧ k + nmL l < 281474976710656) :
    ACalls Tryz.prog ro X 84 [s.v, .int .i64 k] A (fun r A' => r = .ret (.int .i64 (k + nmL l)) ∧ Ext A A') := by
  have hw : Dat.w TGlance = 3 := rfl
  have hlen : s.len = l.length := by rw [hs.len, mkL_length]
  have hll : l.length ≤ nmL l := nmL_length l fun x => by show 1 ≤ 1 + (1 + (1)); omega
  refine ACalls.enterQ (rs := [.tmp 4]) Tryz.func84 rfl (by kernel_rfl) rfl ?_
  simp (maxSteps := 2000000) (disch := first | omega | (simp only [AH.size_new, AH.size_put] <;> omega) | fail) only [amR Tryz.prog ro X, amS, seval, reduceCtorEq, ty3, ty4, ty9, ty59, ty110]
  refine Wp.loopC (fun n e A' => Ext A A' ∧ e 0 = s.v ∧ ∃ i : Nat, i ≤ l.length ∧ n = l.length - i ∧ e 5 = .int .i64 i ∧ e 1 = .int .i64 (k + nmL (l.take i))) (l.length - 0) ?_ ?_
  · simp (maxSteps := 2000000) (disch := first | omega | (simp only [AH.size_new, AH.size_put] <;> omega) | fail) only [amV, amH, amQ, amL, amN Tryz.prog, amS, seval, reduceCtorEq, ty3, ty4, ty9, ty59, ty110]
    exact ⟨Ext.refl A, 0, by omega, rfl, rfl, by simp [nmL]⟩
  · rintro n e A' ⟨hE, h0, i, hi, rfl, h5, h1⟩
    have hz := hE.size
    have hs' := hs.ext hE
    simp (maxSteps := 2000000) (disch := first | omega | (simp only [AH.size_new, AH.size_put] <;> omega) | fail) only [amR Tryz.prog ro X, amS, seval, reduceCtorEq, ty3, ty4, ty9, ty59, ty110, h0, h5, hlen]
    refine CondB.split (fun h => ?_) (fun h => ?_)
    · have hil : i < l.length := by simp at h; omega
      have hnt := nmL_take_succ l i hil
      have hnl := nmL_take_le l (i + 1)
      have hnm : Mk.nm l[i] = 1 + (1 + (1)) := rfl
      obtain ⟨n1, b1, m1, i1, cs, Fi, c1, q1, _⟩ := hs'.row (i := i) (by rw [mkL_length]; exact hil)
      rw [aRow_eq, hw] at c1
      rw [mkL_get] at q1
      obtain ⟨c, e', g1, g2, g3⟩ := rowK_inv c1
      obtain ⟨hci, hFi, z1, z2⟩ := rep_Glance.1 q1
      rw [hci] at g3
      have r0 := row_get g3 0 (by omega)
      have r1 := row_get g3 1 (by omega)
      have r2 := row_get g3 2 (by omega)
      simp only [List.getElem?_cons_zero, List.getElem?_cons_succ, Nat.add_zero] at r0 r1 r2
      have r0 : c[s.o + i * 3]? = some (.string (mkText (k + nmL (l.take i)))) := r0
      have r1 : c[s.o + i * 3 + 1]? = some (.bool (decide ((k + nmL (l.take i) + 1) % 3 = 0))) := r1
      have r2 : c[s.o + i * 3 + 2]? = some (.string (mkText (k + nmL (l.take i) + 1 + 1))) := r2
      simp (maxSteps := 2000000) (disch := first | omega | (simp only [AH.size_new, AH.size_put] <;> omega) | fail) only [amR Tryz.prog ro X, amS, seval, reduceCtorEq, ty3, ty4, ty9, ty59, ty110, h0, h5, h1, n1, g1, r0, r1, r2]
      refine Wp.runG [6] (by kernel_rfl) (.inl (by kernel_rfl)) ?_
      simp (maxSteps := 2000000) (disch := first | omega | (simp only [AH.size_new, AH.size_put] <;> omega) | fail) only [amR Tryz.prog ro X, amS, seval, reduceCtorEq, ty3, ty4, ty9, ty59, ty110, h0, h5, h1, n1, g1, r0, r1, r2]
      refine (Strs.markText_a _ (by first | omega | (simp only [AH.size_new, AH.size_put] <;> omega)) _ (by omega)).mono ?_
      rintro r B1 ⟨rfl, hE1⟩
      have v1 := hE1.size
      simp (maxSteps := 2000000) (disch := first | omega | (simp only [AH.size_new, AH.size_put] <;> omega) | fail) only [amR Tryz.prog ro X, amS, seval, reduceCtorEq, ty3, ty4, ty9, ty59, ty110, h0, h5, h1, n1, g1, r0, r1, r2]
      refine ⟨fun b hb => hE1.get b hb, ?_⟩
      try simp (maxSteps := 2000000) (disch := first | omega | (simp only [AH.size_new, AH.size_put] <;> omega) | fail) only [amR Tryz.prog ro X, amS, seval, reduceCtorEq, ty3, ty4, ty9, ty59, ty110, h0, h5, h1, n1, g1, r0, r1, r2, hE1.get]
      refine Wp.runG [6] (by kernel_rfl) (.inl (by kernel_rfl)) ?_
      simp (maxSteps := 2000000) (disch := first | omega | (simp only [AH.size_new, AH.size_put] <;> omega) | fail) only [amR Tryz.prog ro X, amS, seval, reduceCtorEq, ty3, ty4, ty9, ty59, ty110, h0, h5, h1, n1, g1, r0, r1, r2, hE1.get]
      refine (Strs.markText_a _ (by first | omega | (simp only [AH.size_new, AH.size_put] <;> omega)) _ (by omega)).mono ?_
      rintro r B2 ⟨rfl, hE2⟩
      have v2 := hE2.size
      simp (maxSteps := 2000000) (disch := first | omega | (simp only [AH.size_new, AH.size_put] <;> omega) | fail) only [amR Tryz.prog ro X, amS, seval, reduceCtorEq, ty3, ty4, ty9, ty59, ty110, h0, h5, h1, n1, g1, r0, r1, r2, hE1.get]
      refine ⟨fun b hb => hE2.get b hb, ?_⟩
      try simp (maxSteps := 2000000) (disch := first | omega | (simp only [AH.size_new, AH.size_put] <;> omega) | fail) only [amR Tryz.prog ro X, amS, seval, reduceCtorEq, ty3, ty4, ty9, ty59, ty110, h0, h5, h1, n1, g1, r0, r1, r2, hE1.get, hE2.get]
      refine ⟨l.length - (i + 1), by omega, by ((repeat' (first | exact Ext.refl _ | assumption | refine Ext.trans ?_ (Ext.new _ _) | refine Ext.put ?_ ?_ _ | refine Ext.trans ?_ (by assumption))) <;> (first | omega | (simp only [AH.size_new, AH.size_put] <;> omega))), i + 1, by omega, rfl, by congr 1 <;> omega, by rw [hnt, hnm]; congr 1; omega⟩
    · have hil : i = l.length := by simp at h; omega
      subst hil
      simp (maxSteps := 2000000) (disch := first | omega | (simp only [AH.size_new, AH.size_put] <;> omega) | fail) only [amR Tryz.prog ro X, amS, seval, reduceCtorEq, ty3, ty4, ty9, ty59, ty110, h1]
      rw [List.take_length]
      exact ⟨rfl, hE⟩
theorem mkL_Record (A : AH) (hro : ro ≤ A.size) (s : Sl) (l : List TRecord) (F : List Nat) (hs : SlR A s l F) (hF : ∀ b, b ∈ F → ro ≤ b) (hN : F.Nodup) (k : Int) (hk : 0 ≤ k ∧ k + nmL l < 281474976710656) :
    ACalls Tryz.prog ro X 33 [s.v, .int .i64 k] A (fun r A' => r = .ret (.int .i64 (k + nmL l)) ∧ SlR A' s (mkL k l) F ∧ ExtX F A A') := by
  have hw : Dat.w TRecord = 3 := rfl
  have hll : l.length ≤ nmL l := nmL_length l fun x => by show 1 ≤ (nmL x.1) + (nmL x.2.1 + (1)); omega
  refine ACalls.enterQ (rs := [.tmp 4]) Tryz.func33 rfl (by kernel_rfl) rfl ?_
  simp (maxSteps := 2000000) (disch := first | omega | (simp only [AH.size_new, AH.size_put] <;> omega) | fail) only [amR Tryz.prog ro X, amS, seval, reduceCtorEq, ty3, ty9, ty27, ty56, ty58, ty59, ty61, ty106, ty110]
  refine Wp.loopC (fun n e A' => ExtX F A A' ∧ e 0 = s.v ∧ ∃ i : Nat, i ≤ l.length ∧ n = l.length - i ∧ e 5 = .int .i64 i ∧ e 1 = .int .i64 (k + nmL (l.take i)) ∧ SlR A' s (mkL k (l.take i) ++ l.drop i) F) (l.length - 0) ?_ ?_
  · simp (maxSteps := 2000000) (disch := first | omega | (simp only [AH.size_new, AH.size_put] <;> omega) | fail) only [amV, amH, amQ, amL, amN Tryz.prog, amS, seval, reduceCtorEq, ty3, ty9, ty27, ty56, ty58, ty59, ty61, ty106, ty110]
    exact ⟨ExtX.refl F A, 0, by omega, rfl, rfl, by simp [nmL], by simpa [mkL] using hs⟩
  · rintro n e A' ⟨hE, h0, i, hi, rfl, h5, h1, hs'⟩
    have hlen : s.len = l.length := by rw [hs'.len, List.length_append, mkL_length, List.length_take, List.length_drop]; omega
    have hz := hE.size
    simp (maxSteps := 2000000) (disch := first | omega | (simp only [AH.size_new, AH.size_put] <;> omega) | fail) only [amR Tryz.prog ro X, amS, seval, reduceCtorEq, ty3, ty9, ty27, ty56, ty58, ty59, ty61, ty106, ty110, h0, h5, hlen]
    refine CondB.split (fun h => ?_) (fun h => ?_)
    · have hil : i < l.length := by simp at h; omega
      have hnt := nmL_take_succ l i hil
      have hnl := nmL_take_le l (i + 1)
      have hnm : Mk.nm l[i] = (nmL l[i].1) + (nmL l[i].2.1 + (1)) := rfl
      have e0x : Mk.nm l[i].1 = nmL l[i].1 := rfl
      have e1x : Mk.nm l[i].2.1 = nmL l[i].2.1 := rfl
      have e2x : Mk.nm l[i].2.2 = 1 := rfl
      obtain ⟨c, Fi, ci, n1, b1, i1, hb, g1, hc, hrow, hr, hNi, q2, q3, hup⟩ := hs'.step hN (by rw [mkL_length, List.length_take, Nat.min_eq_left hi]) hil
      rw [hw] at g1 hc hrow hup
      have hrb := hF _ hb
      obtain ⟨s1, s2, G1, G2, hci, hFi, h1', h2', z1⟩ := rep_Record.1 hr
      rw [hci] at hrow
      have r0 := row_get hrow 0 (by omega)
      have r1 := row_get hrow 1 (by omega)
      have r2 := row_get hrow 2 (by omega)
      simp only [List.getElem?_cons_zero, List.getElem?_cons_succ, Nat.add_zero] at r0 r1 r2
      subst hFi
      obtain ⟨hN1, hN2, hND⟩ := List.nodup_append.1 hNi
      simp (maxSteps := 2000000) (disch := first | omega | (simp only [AH.size_new, AH.size_put] <;> omega) | fail) only [amR Tryz.prog ro X, amS, seval, reduceCtorEq, ty3, ty9, ty27, ty56, ty58, ty59, ty61, ty106, ty110, h0, h5, h1, n1, g1, set_miss, r0, r1, r2]
      refine (mkL_Ins _ (by first | omega | (simp only [AH.size_new, AH.size_put] <;> omega)) s1 _ G1 (h1'.extx (F := [s.b]) (by ((repeat' (first | assumption | exact ExtX.refl _ _ | refine ExtX.put ?_ ?_ _ | refine ExtX.new ?_ _ | refine ExtX.trans ?_ (Ext.x (by assumption) _) | refine ExtX.trans ?_ (ExtX.mono (by assumption) ?_))) <;> (first | omega | assumption | (intro b hb2; simp [hb2]; done) | (intro b hb2; exact q3 b (by simp [hb2])) | (simp; done)))) (fun b hb2 hm => q2 (by simp only [List.mem_singleton] at hm; subst hm; simp [hb2]))) (fun b hb2 => hF b (q3 b (by simp [hb2]))) hN1 _ (by omega)).mono ?_
      rintro r B1 ⟨rfl, u1, hX1⟩
      have v1 := hX1.size
      try simp only [AH.size_new, AH.size_put] at v1
      have g1x := hX1.get s.b (by first | omega | (simp only [AH.size_new, AH.size_put] <;> omega)) (fun hm => q2 (by simp [hm]))
      simp (maxSteps := 2000000) (disch := first | omega | (simp only [AH.size_new, AH.size_put] <;> omega) | fail) only [amR Tryz.prog ro X, amS, seval, reduceCtorEq, ty3, ty9, ty27, ty56, ty58, ty59, ty61, ty106, ty110, h0, h5, h1, n1, g1, set_miss, r0, r1, r2, g1x]
      refine (mkL_Glance _ (by first | omega | (simp only [AH.size_new, AH.size_put] <;> omega)) s2 _ G2 (h2'.extx (F := s.b :: G1) (by ((repeat' (first | assumption | exact ExtX.refl _ _ | refine ExtX.put ?_ ?_ _ | refine ExtX.new ?_ _ | refine ExtX.trans ?_ (Ext.x (by assumption) _) | refine ExtX.trans ?_ (ExtX.mono (by assumption) ?_))) <;> (first | omega | assumption | (intro b hb2; simp [hb2]; done) | (intro b hb2; exact q3 b (by simp [hb2])) | (simp; done)))) (fun b hb2 hm => by rcases List.mem_cons.1 hm with rfl | hm; exact q2 (by simp [hb2]); exact hND b hm b hb2 rfl)) (fun b hb2 => hF b (q3 b (by simp [hb2]))) hN2 _ (by omega)).mono ?_
      rintro r B2 ⟨rfl, u2, hX2⟩
      have v2 := hX2.size
      try simp only [AH.size_new, AH.size_put] at v2
      have g2x := hX2.get s.b (by first | omega | (simp only [AH.size_new, AH.size_put] <;> omega)) (fun hm => q2 (by simp [hm]))
      simp (maxSteps := 2000000) (disch := first | omega | (simp only [AH.size_new, AH.size_put] <;> omega) | fail) only [amR Tryz.prog ro X, amS, seval, reduceCtorEq, ty3, ty9, ty27, ty56, ty58, ty59, ty61, ty106, ty110, h0, h5, h1, n1, g1, set_miss, r0, r1, r2, g1x, g2x]
      refine (Strs.markText_a _ (by first | omega | (simp only [AH.size_new, AH.size_put] <;> omega)) _ (by omega)).mono ?_
      rintro r B3 ⟨rfl, hE3⟩
      have v3 := hE3.size
      try simp only [AH.size_new, AH.size_put] at v3
      simp (maxSteps := 2000000) (disch := first | omega | (simp only [AH.size_new, AH.size_put] <;> omega) | fail) only [amR Tryz.prog ro X, amS, seval, reduceCtorEq, ty3, ty9, ty27, ty56, ty58, ty59, ty61, ty106, ty110, h0, h5, h1, n1, g1, set_miss, r0, r1, r2, g1x, g2x, hE3.get]
      refine ⟨l.length - (i + 1), by omega, by ((repeat' (first | assumption | exact ExtX.refl _ _ | refine ExtX.put ?_ ?_ _ | refine ExtX.new ?_ _ | refine ExtX.trans ?_ (Ext.x (by assumption) _) | refine ExtX.trans ?_ (ExtX.mono (by assumption) ?_))) <;> (first | omega | assumption | (intro b hb2; simp [hb2]; done) | (intro b hb2; exact q3 b (by simp [hb2])) | (simp; done))), i + 1, by omega, rfl, by congr 1 <;> omega, by rw [hnt, hnm]; congr 1; omega, ?_⟩
      rw [mkL_take_succ _ _ _ hil]
      refine hup _ _ _ (by ((repeat' (first | assumption | exact ExtX.refl _ _ | refine ExtX.put ?_ ?_ _ | refine ExtX.new ?_ _ | refine ExtX.trans ?_ (Ext.x (by assumption) _) | refine ExtX.trans ?_ (ExtX.mono (by assumption) ?_))) <;> (first | omega | assumption | (intro b hb2; simp [hb2]; done) | (intro b hb2; exact q3 b (by simp [hb2])) | (simp; done)))) (AH.get_put_self _ _ _) (by simp only [List.length_set]) (fun j hj => by simp (disch := omega) only [set_miss]) (rep_Record.2 ⟨s1, s2, _, _, row_of rfl (by simp only [List.length_set]; omega) (fun j hj => by
        have hj2 : j = 0 ∨ j = 1 ∨ j = 2 := by omega
        rcases hj2 with rfl | rfl | rfl <;> (try simp (disch := first | omega | (simp only [List.length_set] <;> omega)) only [set_miss, set_hit, Nat.add_zero]) <;> (try simp only [r0, r1, r2]) <;> rfl), rfl, u1.extx (F := s.b :: G2) (by ((repeat' (first | assumption | exact ExtX.refl _ _ | refine ExtX.put ?_ ?_ _ | refine ExtX.new ?_ _ | refine ExtX.trans ?_ (Ext.x (by assumption) _) | refine ExtX.trans ?_ (ExtX.mono (by assumption) ?_))) <;> (first | omega | assumption | (intro b hb2; simp [hb2]; done) | (intro b hb2; exact q3 b (by simp [hb2])) | (simp; done)))) (fun b hb2 hm => by rcases List.mem_cons.1 hm with rfl | hm; exact q2 (by simp [hb2]); exact hND b hb2 b hm rfl), u2.extx (F := [s.b]) (by ((repeat' (first | assumption | exact ExtX.refl _ _ | refine ExtX.put ?_ ?_ _ | refine ExtX.new ?_ _ | refine ExtX.trans ?_ (Ext.x (by assumption) _) | refine ExtX.trans ?_ (ExtX.mono (by assumption) ?_))) <;> (first | omega | assumption | (intro b hb2; simp [hb2]; done) | (intro b hb2; exact q3 b (by simp [hb2])) | (simp; done)))) (fun b hb2 hm => q2 (by simp only [List.mem_singleton] at hm; subst hm; simp [hb2])), mkText_size _ (by have : ((1 : Nat) : Int) = 1 := rfl; omega)⟩)
    · have hil : i = l.length := by simp at h; omega
      subst hil
      simp (maxSteps := 2000000) (disch := first | omega | (simp only [AH.size_new, AH.size_put] <;> omega) | fail) only [amR Tryz.prog ro X, amS, seval, reduceCtorEq, ty3, ty9, ty27, ty56, ty58, ty59, ty61, ty106, ty110, h1]
      rw [List.take_length] at h1
      rw [List.drop_length, List.append_nil, List.take_length] at hs'
      rw [List.take_length]
      exact ⟨rfl, hs', hE⟩
theorem hdL_Record (A : AH) (hro : ro ≤ A.size) (s : Sl) (l : List TRecord) (F : List Nat) (k : Int) (hs : SlR A s (mkL k l) F) (hk : 0 ≤ k ∧ k + nmL l < 281474976710656) :
    ACalls Tryz.prog ro X 35 [s.v, .int .i64 k] A (fun r A' => r = .ret (.int .i64 (k + nmL l)) ∧ Ext A A') := by
  have hw : Dat.w TRecord = 3 := rfl
  have hlen : s.len = l.length := by rw [hs.len, mkL_length]
  have hll : l.length ≤ nmL l := nmL_length l fun x => by show 1 ≤ (nmL x.1) + (nmL x.2.1 + (1)); omega
  refine ACalls.enterQ (rs := [.tmp 4]) Tryz.func35 rfl (by kernel_rfl) rfl ?_
  simp (maxSteps := 2000000) (disch := first | omega | (simp only [AH.size_new, AH.size_put] <;> omega) | fail) only [amR Tryz.prog ro X, amS, seval, reduceCtorEq, ty3, ty9, ty27, ty56, ty58, ty59, ty61, ty106, ty110]
  refine Wp.loopC (fun n e A' => Ext A A' ∧ e 0 = s.v ∧ ∃ i : Nat, i ≤ l.length ∧ n = l.length - i ∧ e 5 = .int .i64 i ∧ e 1 = .int .i64 (k + nmL (l.take i))) (l.length - 0) ?_ ?_
  · simp (maxSteps := 2000000) (disch := first | omega | (simp only [AH.size_new, AH.size_put] <;> omega) | fail) only [amV, amH, amQ, amL, amN Tryz.prog, amS, seval, reduceCtorEq, ty3, ty9, ty27, ty56, ty58, ty59, ty61, ty106, ty110]
    exact ⟨Ext.refl A, 0, by omega, rfl, rfl, by simp [nmL]⟩
  · rintro n e A' ⟨hE, h0, i, hi, rfl, h5, h1⟩
    have hz := hE.size
    have hs' := hs.ext hE
    simp (maxSteps := 2000000) (disch := first | omega | (simp only [AH.size_new, AH.size_put] <;> omega) | fail) only [amR Tryz.prog ro X, amS, seval, reduceCtorEq, ty3, ty9, ty27, ty56, ty58, ty59, ty61, ty106, ty110, h0, h5, hlen]
    refine CondB.split (fun h => ?_) (fun h => ?_)
    · have hil : i < l.length := by simp at h; omega
      have hnt := nmL_take_succ l i hil
      have hnl := nmL_take_le l (i + 1)
      have hnm : Mk.nm l[i] = (nmL l[i].1) + (nmL l[i].2.1 + (1)) := rfl
      obtain ⟨n1, b1, m1, i1, cs, Fi, c1, q1, _⟩ := hs'.row (i := i) (by rw [mkL_length]; exact hil)
      rw [aRow_eq, hw] at c1
      rw [mkL_get] at q1
      obtain ⟨c, e', g1, g2, g3⟩ := rowK_inv c1
      obtain ⟨s1, s2, G1, G2, hci, hFi, h1', h2', z1⟩ := rep_Record.1 q1
      rw [hci] at g3
      have r0 := row_get g3 0 (by omega)
      have r1 := row_get g3 1 (by omega)
      have r2 := row_get g3 2 (by omega)
      simp only [List.getElem?_cons_zero, List.getElem?_cons_succ, Nat.add_zero] at r0 r1 r2
      have h1' : SlR A' s1 (mkL (k + nmL (l.take i)) l[i].1) G1 := h1'
      have h2' : SlR A' s2 (mkL (k + nmL (l.take i) + (nmL l[i].1 : Nat)) l[i].2.1) G2 := h2'
      have r2 : c[s.o + i * 3 + 2]? = some (.string (mkText (k + nmL (l.take i) + (nmL l[i].1 : Nat) + (nmL l[i].2.1 : Nat)))) := r2
      simp (maxSteps := 2000000) (disch := first | omega | (simp only [AH.size_new, AH.size_put] <;> omega) | fail) only [amR Tryz.prog ro X, amS, seval, reduceCtorEq, ty3, ty9, ty27, ty56, ty58, ty59, ty61, ty106, ty110, h0, h5, h1, n1, g1, r0, r1, r2]
      refine (hdL_Ins _ (by first | omega | (simp only [AH.size_new, AH.size_put] <;> omega)) s1 _ _ _ (h1'.ext (by ((repeat' (first | exact Ext.refl _ | assumption | refine Ext.trans ?_ (Ext.new _ _) | refine Ext.put ?_ ?_ _ | refine Ext.trans ?_ (by assumption))) <;> (first | omega | (simp only [AH.size_new, AH.size_put] <;> omega))))) (by omega)).mono ?_
      rintro r B1 ⟨rfl, hE1⟩
      have v1 := hE1.size
      have w1 : ¬ (k + nmL (l.take i) + (nmL l[i].1 : Nat) < 0) := by omega
      simp (maxSteps := 2000000) (disch := first | omega | (simp only [AH.size_new, AH.size_put] <;> omega) | fail) only [amR Tryz.prog ro X, amS, seval, reduceCtorEq, ty3, ty9, ty27, ty56, ty58, ty59, ty61, ty106, ty110, h0, h5, h1, n1, g1, r0, r1, r2, hE1.get, w1]
      refine (hdL_Glance _ (by first | omega | (simp only [AH.size_new, AH.size_put] <;> omega)) s2 _ _ _ (h2'.ext (by ((repeat' (first | exact Ext.refl _ | assumption | refine Ext.trans ?_ (Ext.new _ _) | refine Ext.put ?_ ?_ _ | refine Ext.trans ?_ (by assumption))) <;> (first | omega | (simp only [AH.size_new, AH.size_put] <;> omega))))) (by omega)).mono ?_
      rintro r B2 ⟨rfl, hE2⟩
      have v2 := hE2.size
      have w2 : ¬ (k + nmL (l.take i) + (nmL l[i].1 : Nat) + (nmL l[i].2.1 : Nat) < 0) := by omega
      simp (maxSteps := 2000000) (disch := first | omega | (simp only [AH.size_new, AH.size_put] <;> omega) | fail) only [amR Tryz.prog ro X, amS, seval, reduceCtorEq, ty3, ty9, ty27, ty56, ty58, ty59, ty61, ty106, ty110, h0, h5, h1, n1, g1, r0, r1, r2, hE1.get, w1, hE2.get, w2]
      refine Wp.runG [6] (by kernel_rfl) (.inl (by kernel_rfl)) ?_
      simp (maxSteps := 2000000) (disch := first | omega | (simp only [AH.size_new, AH.size_put] <;> omega) | fail) only [amR Tryz.prog ro X, amS, seval, reduceCtorEq, ty3, ty9, ty27, ty56, ty58, ty59, ty61, ty106, ty110, h0, h5, h1, n1, g1, r0, r1, r2, hE1.get, w1, hE2.get, w2]
      refine (Strs.markText_a _ (by first | omega | (simp only [AH.size_new, AH.size_put] <;> omega)) _ (by omega)).mono ?_
      rintro r B3 ⟨rfl, hE3⟩
      have v3 := hE3.size
      simp (maxSteps := 2000000) (disch := first | omega | (simp only [AH.size_new, AH.size_put] <;> omega) | fail) only [amR Tryz.prog ro X, amS, seval, reduceCtorEq, ty3, ty9, ty27, ty56, ty58, ty59, ty61, ty106, ty110, h0, h5, h1, n1, g1, r0, r1, r2, hE1.get, w1, hE2.get, w2]
      refine ⟨fun b hb => hE3.get b hb, ?_⟩
      try simp (maxSteps := 2000000) (disch := first | omega | (simp only [AH.size_new, AH.size_put] <;> omega) | fail) only [amR Tryz.prog ro X, amS, seval, reduceCtorEq, ty3, ty9, ty27, ty56, ty58, ty59, ty61, ty106, ty110, h0, h5, h1, n1, g1, r0, r1, r2, hE1.get, w1, hE2.get, w2, hE3.get]
      refine ⟨l.length - (i + 1), by omega, by ((repeat' (first | exact Ext.refl _ | assumption | refine Ext.trans ?_ (Ext.new _ _) | refine Ext.put ?_ ?_ _ | refine Ext.trans ?_ (by assumption))) <;> (first | omega | (simp only [AH.size_new, AH.size_put] <;> omega))), i + 1, by omega, rfl, by congr 1 <;> omega, by rw [hnt, hnm]; congr 1; omega⟩
    · have hil : i = l.length := by simp at h; omega
      subst hil
      simp (maxSteps := 2000000) (disch := first | omega | (simp only [AH.size_new, AH.size_put] <;> omega) | fail) only [amR Tryz.prog ro X, amS, seval, reduceCtorEq, ty3, ty9, ty27, ty56, ty58, ty59, ty61, ty106, ty110, h1]
      rw [List.take_length]
      exact ⟨rfl, hE⟩
theorem mk_Store (A : AH) (hro : ro ≤ A.size) (a1 : Int) (s1 : Sl) (l1 : List ByteArray) (G1 : List Nat) (s2 : Sl) (l2 : List TRecord) (G2 : List Nat) (k : Int)
    (h1 : SlR A s1 l1 G1) (hF1 : ∀ b, b ∈ G1 → ro ≤ b) (h2 : SlR A s2 l2 G2) (hF2 : ∀ b, b ∈ G2 → ro ≤ b) (hN : (G1 ++ (G2)).Nodup) (hk : 0 ≤ k ∧ k + (nmL l1 : Nat) + (nmL l2 : Nat) < 281474976710656) :
    ACalls Tryz.prog ro X 11 [.agg #[.int .i64 a1, s1.v, s2.v], .int .i64 k] A (fun r A' => r = .ret (.int .i64 (k + (nmL l1 : Nat) + (nmL l2 : Nat))) ∧ SlR A' s1 (mkL (k) l1) G1 ∧ SlR A' s2 (mkL (k + (nmL l1 : Nat)) l2) G2 ∧ ExtX (G1 ++ (G2)) A A') := by
  have hN1 := hN
  have D1 : ∀ b, b ∈ G1 → b ∉ G2 := fun b hb hm => (List.nodup_append.1 hN1).2.2 b hb b hm rfl
  have hN2 := (List.nodup_append.1 hN1).2.1
  refine ACalls.enterQ (rs := [.tmp 4]) Tryz.func11 rfl (by kernel_rfl) rfl ?_
  simp (maxSteps := 2000000) (disch := first | omega | (simp only [AH.size_new, AH.size_put] <;> omega) | fail) only [amR Tryz.prog ro X, amS, seval, reduceCtorEq, ty3, ty9, ty22, ty27, ty29, ty61]
  refine (mkL_str _ (by first | omega | (simp only [AH.size_new, AH.size_put] <;> omega)) s1 _ G1 (h1.ext (by ((repeat' (first | exact Ext.refl _ | assumption | refine Ext.trans ?_ (Ext.new _ _) | refine Ext.put ?_ ?_ _ | refine Ext.trans ?_ (by assumption))) <;> (first | omega | (simp only [AH.size_new, AH.size_put] <;> omega))))) hF1 (List.nodup_append.1 hN1).1 _ (by omega)).mono ?_
  rintro r B1 ⟨rfl, u1, hX1⟩
  have v1 := hX1.size
  try simp only [AH.size_new, AH.size_put] at v1
  have x2k1 := (h2.ext (by ((repeat' (first | exact Ext.refl _ | assumption | refine Ext.trans ?_ (Ext.new _ _) | refine Ext.put ?_ ?_ _ | refine Ext.trans ?_ (by assumption))) <;> (first | omega | (simp only [AH.size_new, AH.size_put] <;> omega))))).extx hX1 (fun b hb hm => D1 b hm (by first | exact hb | simp [hb]))
  have hG1 : B1.get A.size = _ := hX1.get A.size (by first | omega | (simp only [AH.size_new, AH.size_put] <;> omega)) (fun hm => by have hb := h1.bound _ hm; omega)
  simp (maxSteps := 2000000) (disch := first | omega | (simp only [AH.size_new, AH.size_put] <;> omega) | fail) only [amR Tryz.prog ro X, amS, seval, reduceCtorEq, ty3, ty9, ty22, ty27, ty29, ty61, hG1]
  refine (mkL_Record _ (by first | omega | (simp only [AH.size_new, AH.size_put] <;> omega)) s2 _ G2 x2k1 hF2 hN2 _ (by omega)).mono ?_
  rintro r B2 ⟨rfl, u2, hX2⟩
  have v2 := hX2.size
  try simp only [AH.size_new, AH.size_put] at v2
  have x1k2 := (u1).extx hX2 (fun b hb hm => D1 b hb (by first | exact hm | simp [hm]))
  have hG2 : B2.get A.size = _ := hX2.get A.size (by first | omega | (simp only [AH.size_new, AH.size_put] <;> omega)) (fun hm => by have hb := h2.bound _ hm; omega)
  simp (maxSteps := 2000000) (disch := first | omega | (simp only [AH.size_new, AH.size_put] <;> omega) | fail) only [amR Tryz.prog ro X, amS, seval, reduceCtorEq, ty3, ty9, ty22, ty27, ty29, ty61, hG1, hG2]
  exact ⟨x1k2, u2, (by ((repeat' (first | exact ExtX.refl _ _ | refine ExtX.put ?_ ?_ _ | refine ExtX.new ?_ _ | refine ExtX.trans ?_ (ExtX.mono (by assumption) ?_))) <;> (intro b hb; first | exact hb | (simp at hb ⊢; first | (simp [hb]; done) | (rcases hb with hb | hb <;> simp [hb])))))⟩
theorem hd_Store (A : AH) (hro : ro ≤ A.size) (a1 : Int) (s1 : Sl) (l1 : List ByteArray) (G1 : List Nat) (s2 : Sl) (l2 : List TRecord) (G2 : List Nat) (k : Int)
    (h1 : SlR A s1 (mkL (k) l1) G1) (h2 : SlR A s2 (mkL (k + (nmL l1 : Nat)) l2) G2) (hk : 0 ≤ k ∧ k + (nmL l1 : Nat) + (nmL l2 : Nat) < 281474976710656) :
    ACalls Tryz.prog ro X 12 [.agg #[.int .i64 a1, s1.v, s2.v], .int .i64 k] A (fun r A' => r = .ret (.int .i64 (k + (nmL l1 : Nat) + (nmL l2 : Nat))) ∧ Ext A A') := by
  refine ACalls.enterQ (rs := [.tmp 4]) Tryz.func12 rfl (by kernel_rfl) rfl ?_
  simp (maxSteps := 2000000) (disch := first | omega | (simp only [AH.size_new, AH.size_put] <;> omega) | fail) only [amR Tryz.prog ro X, amS, seval, reduceCtorEq, ty3, ty9, ty22, ty27, ty29, ty61]
  refine (hdL_str _ (by first | omega | (simp only [AH.size_new, AH.size_put] <;> omega)) s1 _ _ _ (h1.ext (by ((repeat' (first | exact Ext.refl _ | assumption | refine Ext.trans ?_ (Ext.new _ _) | refine Ext.put ?_ ?_ _ | refine Ext.trans ?_ (by assumption))) <;> (first | omega | (simp only [AH.size_new, AH.size_put] <;> omega))))) (by omega)).mono ?_
  rintro r B1 ⟨rfl, hE1⟩
  have v1 := hE1.size
  try simp only [AH.size_new, AH.size_put] at v1
  have w1 : ¬ (k + (nmL l1 : Nat) < 0) := by omega
  simp (maxSteps := 2000000) (disch := first | omega | (simp only [AH.size_new, AH.size_put] <;> omega) | fail) only [amR Tryz.prog ro X, amS, seval, reduceCtorEq, ty3, ty9, ty22, ty27, ty29, ty61, hE1.get, w1]
  refine (hdL_Record _ (by first | omega | (simp only [AH.size_new, AH.size_put] <;> omega)) s2 _ _ _ (h2.ext (by ((repeat' (first | exact Ext.refl _ | assumption | refine Ext.trans ?_ (Ext.new _ _) | refine Ext.put ?_ ?_ _ | refine Ext.trans ?_ (by assumption))) <;> (first | omega | (simp only [AH.size_new, AH.size_put] <;> omega))))) (by omega)).mono ?_
  rintro r B2 ⟨rfl, hE2⟩
  have v2 := hE2.size
  try simp only [AH.size_new, AH.size_put] at v2
  have w2 : ¬ (k + (nmL l1 : Nat) + (nmL l2 : Nat) < 0) := by omega
  simp (maxSteps := 2000000) (disch := first | omega | (simp only [AH.size_new, AH.size_put] <;> omega) | fail) only [amR Tryz.prog ro X, amS, seval, reduceCtorEq, ty3, ty9, ty22, ty27, ty29, ty61, hE1.get, w1, hE2.get, w2]
  ((repeat' (first | exact Ext.refl _ | assumption | refine Ext.trans ?_ (Ext.new _ _) | refine Ext.put ?_ ?_ _ | refine Ext.trans ?_ (by assumption))) <;> (first | omega | (simp only [AH.size_new, AH.size_put] <;> omega)))
end Go.Proofs.YtmelgjblkmbhjaaGreatDoor.Amu.Law
