/- The laws' own functions: marks in the program's data, and whether they stand (printed by law.py). -/
import Derived.Test.YtcdnlghlbljopaaDoorAmuLawA
namespace Go.Proofs.YtcdnlghlbljopaaDoor.Amu.Law
open Go Go.AM Go.Proofs
set_option linter.unusedVariables false
set_option linter.unusedSimpArgs false
namespace B
theorem ty3 : tKind Tryd.prog 3 = some (.int .i64) ∧ tSize Tryd.prog 3 = some 1 ∧ tAgg Tryd.prog 3 = some false ∧ tZero Tryd.prog 3 = some (.int .i64 0) := ⟨by kernel_rfl, by kernel_rfl, by kernel_rfl, by kernel_rfl⟩
theorem ty4 : tKind Tryd.prog 4 = some (.bool) ∧ tSize Tryd.prog 4 = some 1 ∧ tAgg Tryd.prog 4 = some false ∧ tZero Tryd.prog 4 = some (.bool false) := ⟨by kernel_rfl, by kernel_rfl, by kernel_rfl, by kernel_rfl⟩
theorem ty9 : tKind Tryd.prog 9 = some (.str) ∧ tSize Tryd.prog 9 = some 1 ∧ tAgg Tryd.prog 9 = some false ∧ tZero Tryd.prog 9 = some (.string ByteArray.empty) := ⟨by kernel_rfl, by kernel_rfl, by kernel_rfl, by kernel_rfl⟩
theorem ty27 : tKind Tryd.prog 27 = some (.slice) ∧ tSize Tryd.prog 27 = some 1 ∧ tAgg Tryd.prog 27 = some false ∧ tZero Tryd.prog 27 = some (.slice none 0 0) ∧ tElem Tryd.prog 27 = some 109 ∧ tElemSize Tryd.prog 27 = some 3 ∧ tBytes Tryd.prog 27 = false := ⟨by kernel_rfl, by kernel_rfl, by kernel_rfl, by kernel_rfl, by kernel_rfl, by kernel_rfl, by kernel_rfl⟩
theorem ty29 : tKind Tryd.prog 29 = some (.struct) ∧ tSize Tryd.prog 29 = some 1 ∧ tAgg Tryd.prog 29 = some true ∧ tZero Tryd.prog 29 = some (.agg #[.slice none 0 0]) ∧ tField Tryd.prog 29 0 = some (0, 27) ∧ tPlaces Tryd.prog 29 = some [(0, 1)] := ⟨by kernel_rfl, by kernel_rfl, by kernel_rfl, by kernel_rfl, by kernel_rfl, by kernel_rfl⟩
theorem ty39 : tKind Tryd.prog 39 = some (.slice) ∧ tSize Tryd.prog 39 = some 1 ∧ tAgg Tryd.prog 39 = some false ∧ tZero Tryd.prog 39 = some (.slice none 0 0) ∧ tElem Tryd.prog 39 = some 116 ∧ tElemSize Tryd.prog 39 = some 2 ∧ tBytes Tryd.prog 39 = false := ⟨by kernel_rfl, by kernel_rfl, by kernel_rfl, by kernel_rfl, by kernel_rfl, by kernel_rfl, by kernel_rfl⟩
theorem ty40 : tKind Tryd.prog 40 = some (.slice) ∧ tSize Tryd.prog 40 = some 1 ∧ tAgg Tryd.prog 40 = some false ∧ tZero Tryd.prog 40 = some (.slice none 0 0) ∧ tElem Tryd.prog 40 = some 118 ∧ tElemSize Tryd.prog 40 = some 2 ∧ tBytes Tryd.prog 40 = false := ⟨by kernel_rfl, by kernel_rfl, by kernel_rfl, by kernel_rfl, by kernel_rfl, by kernel_rfl, by kernel_rfl⟩
theorem ty42 : tKind Tryd.prog 42 = some (.struct) ∧ tSize Tryd.prog 42 = some 2 ∧ tAgg Tryd.prog 42 = some true ∧ tZero Tryd.prog 42 = some (.agg #[.slice none 0 0, .slice none 0 0]) ∧ tField Tryd.prog 42 0 = some (0, 39) ∧ tField Tryd.prog 42 1 = some (1, 40) ∧ tPlaces Tryd.prog 42 = some [(0, 1), (1, 1)] := ⟨by kernel_rfl, by kernel_rfl, by kernel_rfl, by kernel_rfl, by kernel_rfl, by kernel_rfl, by kernel_rfl⟩
theorem ty47 : tKind Tryd.prog 47 = some (.slice) ∧ tSize Tryd.prog 47 = some 1 ∧ tAgg Tryd.prog 47 = some false ∧ tZero Tryd.prog 47 = some (.slice none 0 0) ∧ tElem Tryd.prog 47 = some 9 ∧ tElemSize Tryd.prog 47 = some 1 ∧ tBytes Tryd.prog 47 = false := ⟨by kernel_rfl, by kernel_rfl, by kernel_rfl, by kernel_rfl, by kernel_rfl, by kernel_rfl, by kernel_rfl⟩
theorem ty53 : tKind Tryd.prog 53 = some (.slice) ∧ tSize Tryd.prog 53 = some 1 ∧ tAgg Tryd.prog 53 = some false ∧ tZero Tryd.prog 53 = some (.slice none 0 0) ∧ tElem Tryd.prog 53 = some 69 ∧ tElemSize Tryd.prog 53 = some 3 ∧ tBytes Tryd.prog 53 = false := ⟨by kernel_rfl, by kernel_rfl, by kernel_rfl, by kernel_rfl, by kernel_rfl, by kernel_rfl, by kernel_rfl⟩
theorem ty55 : tKind Tryd.prog 55 = some (.struct) ∧ tSize Tryd.prog 55 = some 3 ∧ tAgg Tryd.prog 55 = some true ∧ tZero Tryd.prog 55 = some (.agg #[.int .i64 0, .slice none 0 0, .slice none 0 0]) ∧ tField Tryd.prog 55 0 = some (0, 3) ∧ tField Tryd.prog 55 1 = some (1, 47) ∧ tField Tryd.prog 55 2 = some (2, 53) ∧ tPlaces Tryd.prog 55 = some [(0, 1), (1, 1), (2, 1)] := ⟨by kernel_rfl, by kernel_rfl, by kernel_rfl, by kernel_rfl, by kernel_rfl, by kernel_rfl, by kernel_rfl, by kernel_rfl⟩
theorem ty67 : tKind Tryd.prog 67 = some (.slice) ∧ tSize Tryd.prog 67 = some 1 ∧ tAgg Tryd.prog 67 = some false ∧ tZero Tryd.prog 67 = some (.slice none 0 0) ∧ tElem Tryd.prog 67 = some 153 ∧ tElemSize Tryd.prog 67 = some 3 ∧ tBytes Tryd.prog 67 = false := ⟨by kernel_rfl, by kernel_rfl, by kernel_rfl, by kernel_rfl, by kernel_rfl, by kernel_rfl, by kernel_rfl⟩
theorem ty69 : tKind Tryd.prog 69 = some (.struct) ∧ tSize Tryd.prog 69 = some 3 ∧ tAgg Tryd.prog 69 = some true ∧ tZero Tryd.prog 69 = some (.agg #[.slice none 0 0, .slice none 0 0, .string ByteArray.empty]) ∧ tField Tryd.prog 69 0 = some (0, 29) ∧ tField Tryd.prog 69 1 = some (1, 67) ∧ tField Tryd.prog 69 2 = some (2, 9) ∧ tPlaces Tryd.prog 69 = some [(0, 1), (1, 1), (2, 1)] := ⟨by kernel_rfl, by kernel_rfl, by kernel_rfl, by kernel_rfl, by kernel_rfl, by kernel_rfl, by kernel_rfl, by kernel_rfl⟩
theorem ty71 : tKind Tryd.prog 71 = some (.slice) ∧ tSize Tryd.prog 71 = some 1 ∧ tAgg Tryd.prog 71 = some false ∧ tZero Tryd.prog 71 = some (.slice none 0 0) ∧ tElem Tryd.prog 71 = some 151 ∧ tElemSize Tryd.prog 71 = some 3 ∧ tBytes Tryd.prog 71 = false := ⟨by kernel_rfl, by kernel_rfl, by kernel_rfl, by kernel_rfl, by kernel_rfl, by kernel_rfl, by kernel_rfl⟩
theorem ty73 : tKind Tryd.prog 73 = some (.struct) ∧ tSize Tryd.prog 73 = some 3 ∧ tAgg Tryd.prog 73 = some true ∧ tZero Tryd.prog 73 = some (.agg #[.int .i64 0, .string ByteArray.empty, .slice none 0 0]) ∧ tField Tryd.prog 73 0 = some (0, 3) ∧ tField Tryd.prog 73 1 = some (1, 9) ∧ tField Tryd.prog 73 2 = some (2, 47) ∧ tPlaces Tryd.prog 73 = some [(0, 1), (1, 1), (2, 1)] := ⟨by kernel_rfl, by kernel_rfl, by kernel_rfl, by kernel_rfl, by kernel_rfl, by kernel_rfl, by kernel_rfl, by kernel_rfl⟩
theorem ty88 : tKind Tryd.prog 88 = some (.struct) ∧ tSize Tryd.prog 88 = some 6 ∧ tAgg Tryd.prog 88 = some true ∧ tZero Tryd.prog 88 = some (.agg #[.int .i64 0, .int .i64 0, .slice none 0 0, .slice none 0 0, .string ByteArray.empty, .string ByteArray.empty]) ∧ tField Tryd.prog 88 0 = some (0, 3) ∧ tField Tryd.prog 88 1 = some (1, 55) ∧ tField Tryd.prog 88 2 = some (4, 9) ∧ tField Tryd.prog 88 3 = some (5, 9) ∧ tPlaces Tryd.prog 88 = some [(0, 1), (1, 3), (4, 1), (5, 1)] := ⟨by kernel_rfl, by kernel_rfl, by kernel_rfl, by kernel_rfl, by kernel_rfl, by kernel_rfl, by kernel_rfl, by kernel_rfl, by kernel_rfl⟩
theorem ty109 : tKind Tryd.prog 109 = some (.struct) ∧ tSize Tryd.prog 109 = some 3 ∧ tAgg Tryd.prog 109 = some true ∧ tZero Tryd.prog 109 = some (.agg #[.int .i64 0, .string ByteArray.empty, .int .i64 0]) ∧ tField Tryd.prog 109 0 = some (0, 3) ∧ tField Tryd.prog 109 1 = some (1, 9) ∧ tField Tryd.prog 109 2 = some (2, 3) ∧ tPlaces Tryd.prog 109 = some [(0, 1), (1, 1), (2, 1)] := ⟨by kernel_rfl, by kernel_rfl, by kernel_rfl, by kernel_rfl, by kernel_rfl, by kernel_rfl, by kernel_rfl, by kernel_rfl⟩
theorem ty116 : tKind Tryd.prog 116 = some (.struct) ∧ tSize Tryd.prog 116 = some 2 ∧ tAgg Tryd.prog 116 = some true ∧ tZero Tryd.prog 116 = some (.agg #[.string ByteArray.empty, .string ByteArray.empty]) ∧ tField Tryd.prog 116 0 = some (0, 9) ∧ tField Tryd.prog 116 1 = some (1, 9) ∧ tPlaces Tryd.prog 116 = some [(0, 1), (1, 1)] := ⟨by kernel_rfl, by kernel_rfl, by kernel_rfl, by kernel_rfl, by kernel_rfl, by kernel_rfl, by kernel_rfl⟩
theorem ty118 : tKind Tryd.prog 118 = some (.struct) ∧ tSize Tryd.prog 118 = some 2 ∧ tAgg Tryd.prog 118 = some true ∧ tZero Tryd.prog 118 = some (.agg #[.string ByteArray.empty, .slice none 0 0]) ∧ tField Tryd.prog 118 0 = some (0, 9) ∧ tField Tryd.prog 118 1 = some (1, 29) ∧ tPlaces Tryd.prog 118 = some [(0, 1), (1, 1)] := ⟨by kernel_rfl, by kernel_rfl, by kernel_rfl, by kernel_rfl, by kernel_rfl, by kernel_rfl, by kernel_rfl⟩
theorem ty151 : tKind Tryd.prog 151 = some (.struct) ∧ tSize Tryd.prog 151 = some 3 ∧ tAgg Tryd.prog 151 = some true ∧ tZero Tryd.prog 151 = some (.agg #[.string ByteArray.empty, .bool false, .string ByteArray.empty]) ∧ tField Tryd.prog 151 0 = some (0, 9) ∧ tField Tryd.prog 151 1 = some (1, 4) ∧ tField Tryd.prog 151 2 = some (2, 9) ∧ tPlaces Tryd.prog 151 = some [(0, 1), (1, 1), (2, 1)] := ⟨by kernel_rfl, by kernel_rfl, by kernel_rfl, by kernel_rfl, by kernel_rfl, by kernel_rfl, by kernel_rfl, by kernel_rfl⟩
theorem ty153 : tKind Tryd.prog 153 = some (.struct) ∧ tSize Tryd.prog 153 = some 3 ∧ tAgg Tryd.prog 153 = some true ∧ tZero Tryd.prog 153 = some (.agg #[.string ByteArray.empty, .bool false, .string ByteArray.empty]) ∧ tField Tryd.prog 153 0 = some (0, 9) ∧ tField Tryd.prog 153 1 = some (1, 4) ∧ tField Tryd.prog 153 2 = some (2, 9) ∧ tPlaces Tryd.prog 153 = some [(0, 1), (1, 1), (2, 1)] := ⟨by kernel_rfl, by kernel_rfl, by kernel_rfl, by kernel_rfl, by kernel_rfl, by kernel_rfl, by kernel_rfl, by kernel_rfl⟩

end B
open B
variable {ro : Nat} {X : FuncId → List Value → AH → ARes → AH → Prop}
set_option maxRecDepth 10000
theorem mkL_str (A : AH) (hro : ro ≤ A.size) (s : Sl) (l : List ByteArray) (F : List Nat) (hs : SlR A s l F) (hF : ∀ b, b ∈ F → ro ≤ b) (hN : F.Nodup) (k : Int) (hk : 0 ≤ k ∧ k + nmL l < 281474976710656) :
    ACalls Tryd.prog ro X 109 [s.v, .int .i64 k] A (fun r A' => r = .ret (.int .i64 (k + nmL l)) ∧ SlR A' s (mkL k l) F ∧ ExtX F A A') := by
  have := nmL_str l
  refine (Strs.markStringS_a A hro s l F hs hF hN (by omega) k (by omega)).mono fun r A' h => ?_
  rw [AM.mkL_str, this]
  exact h
theorem hdL_str (A : AH) (hro : ro ≤ A.size) (s : Sl) (l : List ByteArray) (F : List Nat) (k : Int) (hs : SlR A s (mkL k l) F) (hk : 0 ≤ k ∧ k + nmL l < 281474976710656) :
    ACalls Tryd.prog ro X 162 [s.v, .int .i64 k] A (fun r A' => r = .ret (.int .i64 (k + nmL l)) ∧ Ext A A') := by
  have := nmL_str l
  refine (Strs.heldStringS_a A hro s _ F hs (by rw [mkL_length]; omega) k (by omega)).mono fun r A' h => ?_
  rw [AM.mkL_str, mkStrs_length, if_pos rfl] at h
  rw [this]
  exact h
theorem mkL_Ins (A : AH) (hro : ro ≤ A.size) (s : Sl) (l : List TIns) (F : List Nat) (hs : SlR A s l F) (hF : ∀ b, b ∈ F → ro ≤ b) (hN : F.Nodup) (k : Int) (hk : 0 ≤ k ∧ k + nmL l < 281474976710656) :
    ACalls Tryd.prog ro X 107 [s.v, .int .i64 k] A (fun r A' => r = .ret (.int .i64 (k + nmL l)) ∧ SlR A' s (mkL k l) F ∧ ExtX F A A') := by
  have hw : Dat.w TIns = 3 := rfl
  have hll : l.length ≤ nmL l := nmL_length l fun x => by show 1 ≤ 1 + (1 + (1)); omega
  refine ACalls.enterQ (rs := [.tmp 4]) Tryd.func107 rfl (by kernel_rfl) rfl ?_
  simp (maxSteps := 2000000) (disch := first | omega | (simp only [AH.size_new, AH.size_put] <;> omega) | fail) only [amR Tryd.prog ro X, amS, seval, reduceCtorEq, ty3, ty9, ty27, ty109]
  refine Wp.loopC (fun n e A' => ExtX F A A' ∧ e 0 = s.v ∧ ∃ i : Nat, i ≤ l.length ∧ n = l.length - i ∧ e 5 = .int .i64 i ∧ e 1 = .int .i64 (k + nmL (l.take i)) ∧ SlR A' s (mkL k (l.take i) ++ l.drop i) F) (l.length - 0) ?_ ?_
  · simp (maxSteps := 2000000) (disch := first | omega | (simp only [AH.size_new, AH.size_put] <;> omega) | fail) only [amV, amH, amQ, amL, amN Tryd.prog, amS, seval, reduceCtorEq, ty3, ty9, ty27, ty109]
    exact ⟨ExtX.refl F A, 0, by omega, rfl, rfl, by simp [nmL], by simpa [mkL] using hs⟩
  · rintro n e A' ⟨hE, h0, i, hi, rfl, h5, h1, hs'⟩
    have hlen : s.len = l.length := by rw [hs'.len, List.length_append, mkL_length, List.length_take, List.length_drop]; omega
    have hz := hE.size
    simp (maxSteps := 2000000) (disch := first | omega | (simp only [AH.size_new, AH.size_put] <;> omega) | fail) only [amR Tryd.prog ro X, amS, seval, reduceCtorEq, ty3, ty9, ty27, ty109, h0, h5, hlen]
    refine CondB.split (fun h => ?_) (fun h => ?_)
    · have hil : i < l.length := by simp at h; omega
      have hnt := nmL_take_succ l i hil
      have hnl := nmL_take_le l (i + 1)
      have hnm : Mk.nm l[i] = 1 + (1 + (1)) := rfl
      have e0x : Mk.nm l[i].1 = 1 := rfl
      have e1x : Mk.nm l[i].2.1 = 1 := rfl
      have e2x : Mk.nm l[i].2.2 = 1 := rfl
      obtain ⟨c, Fi, ci, n1, b1, i1, hb, g1, hc, hrow, hr, hNi, q2, q3, hup⟩ := hs'.step hN (by rw [mkL_length, List.length_take, Nat.min_eq_left hi]) hil
      rw [hw] at g1 hc hrow hup
      have hrb := hF _ hb
      obtain ⟨hci, hFi, z1⟩ := rep_Ins.1 hr
      rw [hci] at hrow
      have r0 := row_get hrow 0 (by omega)
      have r1 := row_get hrow 1 (by omega)
      have r2 := row_get hrow 2 (by omega)
      simp only [List.getElem?_cons_zero, List.getElem?_cons_succ, Nat.add_zero] at r0 r1 r2
      simp (maxSteps := 2000000) (disch := first | omega | (simp only [AH.size_new, AH.size_put] <;> omega) | fail) only [amR Tryd.prog ro X, amS, seval, reduceCtorEq, ty3, ty9, ty27, ty109, h0, h5, h1, n1, g1, set_miss, r0, r1, r2]
      refine (Strs.markText_a _ (by first | omega | (simp only [AH.size_new, AH.size_put] <;> omega)) _ (by omega)).mono ?_
      rintro r B1 ⟨rfl, hE1⟩
      have v1 := hE1.size
      try simp only [AH.size_new, AH.size_put] at v1
      simp (maxSteps := 2000000) (disch := first | omega | (simp only [AH.size_new, AH.size_put] <;> omega) | fail) only [amR Tryd.prog ro X, amS, seval, reduceCtorEq, ty3, ty9, ty27, ty109, h0, h5, h1, n1, g1, set_miss, r0, r1, r2, hE1.get]
      refine ⟨l.length - (i + 1), by omega, by ((repeat' (first | assumption | exact ExtX.refl _ _ | refine ExtX.put ?_ ?_ _ | refine ExtX.new ?_ _ | refine ExtX.trans ?_ (Ext.x (by assumption) _) | refine ExtX.trans ?_ (ExtX.mono (by assumption) ?_))) <;> (first | omega | assumption | (intro b hb2; simp [hb2]; done) | (intro b hb2; exact q3 b (by simp [hb2])) | (simp; done))), i + 1, by omega, rfl, by congr 1 <;> omega, by rw [hnt, hnm]; congr 1; omega, ?_⟩
      rw [mkL_take_succ _ _ _ hil]
      refine hup _ _ _ (by ((repeat' (first | assumption | exact ExtX.refl _ _ | refine ExtX.put ?_ ?_ _ | refine ExtX.new ?_ _ | refine ExtX.trans ?_ (Ext.x (by assumption) _) | refine ExtX.trans ?_ (ExtX.mono (by assumption) ?_))) <;> (first | omega | assumption | (intro b hb2; simp [hb2]; done) | (intro b hb2; exact q3 b (by simp [hb2])) | (simp; done)))) (AH.get_put_self _ _ _) (by simp only [List.length_set]) (fun j hj => by simp (disch := omega) only [set_miss]) (rep_Ins.2 ⟨row_of rfl (by simp only [List.length_set]; omega) (fun j hj => by
        have hj2 : j = 0 ∨ j = 1 ∨ j = 2 := by omega
        rcases hj2 with rfl | rfl | rfl <;> (try simp (disch := first | omega | (simp only [List.length_set] <;> omega)) only [set_miss, set_hit, Nat.add_zero]) <;> (try simp only [r0, r1, r2]) <;> rfl), hFi, mkText_size _ (by have : ((1 : Nat) : Int) = 1 := rfl; omega)⟩)
    · have hil : i = l.length := by simp at h; omega
      subst hil
      simp (maxSteps := 2000000) (disch := first | omega | (simp only [AH.size_new, AH.size_put] <;> omega) | fail) only [amR Tryd.prog ro X, amS, seval, reduceCtorEq, ty3, ty9, ty27, ty109, h1]
      rw [List.take_length] at h1
      rw [List.drop_length, List.append_nil, List.take_length] at hs'
      rw [List.take_length]
      exact ⟨rfl, hs', hE⟩
theorem hdL_Ins (A : AH) (hro : ro ≤ A.size) (s : Sl) (l : List TIns) (F : List Nat) (k : Int) (hs : SlR A s (mkL k l) F) (hk : 0 ≤ k ∧ k + nmL l < 281474976710656) :
    ACalls Tryd.prog ro X 161 [s.v, .int .i64 k] A (fun r A' => r = .ret (.int .i64 (k + nmL l)) ∧ Ext A A') := by
  have hw : Dat.w TIns = 3 := rfl
  have hlen : s.len = l.length := by rw [hs.len, mkL_length]
  have hll : l.length ≤ nmL l := nmL_length l fun x => by show 1 ≤ 1 + (1 + (1)); omega
  refine ACalls.enterQ (rs := [.tmp 4]) Tryd.func161 rfl (by kernel_rfl) rfl ?_
  simp (maxSteps := 2000000) (disch := first | omega | (simp only [AH.size_new, AH.size_put] <;> omega) | fail) only [amR Tryd.prog ro X, amS, seval, reduceCtorEq, ty3, ty9, ty27, ty109]
  refine Wp.loopC (fun n e A' => Ext A A' ∧ e 0 = s.v ∧ ∃ i : Nat, i ≤ l.length ∧ n = l.length - i ∧ e 5 = .int .i64 i ∧ e 1 = .int .i64 (k + nmL (l.take i))) (l.length - 0) ?_ ?_
  · simp (maxSteps := 2000000) (disch := first | omega | (simp only [AH.size_new, AH.size_put] <;> omega) | fail) only [amV, amH, amQ, amL, amN Tryd.prog, amS, seval, reduceCtorEq, ty3, ty9, ty27, ty109]
    exact ⟨Ext.refl A, 0, by omega, rfl, rfl, by simp [nmL]⟩
  · rintro n e A' ⟨hE, h0, i, hi, rfl, h5, h1⟩
    have hz := hE.size
    have hs' := hs.ext hE
    simp (maxSteps := 2000000) (disch := first | omega | (simp only [AH.size_new, AH.size_put] <;> omega) | fail) only [amR Tryd.prog ro X, amS, seval, reduceCtorEq, ty3, ty9, ty27, ty109, h0, h5, hlen]
    refine CondB.split (fun h => ?_) (fun h => ?_)
    · have hil : i < l.length := by simp at h; omega
      have hnt := nmL_take_succ l i hil
      have hnl := nmL_take_le l (i + 1)
      have hnm : Mk.nm l[i] = 1 + (1 + (1)) := rfl
      obtain ⟨n1, b1, m1, i1, cs, Fi, c1, q1, _⟩ := hs'.row (i := i) (by rw [mkL_length]; exact hil)
      rw [aRow_eq, hw] at c1
      rw [mkL_get] at q1
      obtain ⟨c, e', g1, g2, g3⟩ := rowK_inv c1
      obtain ⟨hci, hFi, z1⟩ := rep_Ins.1 q1
      rw [hci] at g3
      have r0 := row_get g3 0 (by omega)
      have r1 := row_get g3 1 (by omega)
      have r2 := row_get g3 2 (by omega)
      simp only [List.getElem?_cons_zero, List.getElem?_cons_succ, Nat.add_zero] at r0 r1 r2
      have r0 : c[s.o + i * 3]? = some (.int .i64 (k + nmL (l.take i))) := r0
      have r1 : c[s.o + i * 3 + 1]? = some (.string (mkText (k + nmL (l.take i) + 1))) := r1
      have r2 : c[s.o + i * 3 + 2]? = some (.int .i64 (k + nmL (l.take i) + 1 + 1)) := r2
      simp (maxSteps := 2000000) (disch := first | omega | (simp only [AH.size_new, AH.size_put] <;> omega) | fail) only [amR Tryd.prog ro X, amS, seval, reduceCtorEq, ty3, ty9, ty27, ty109, h0, h5, h1, n1, g1, r0, r1, r2]
      refine Wp.runG [6] (by kernel_rfl) (.inl (by kernel_rfl)) ?_
      simp (maxSteps := 2000000) (disch := first | omega | (simp only [AH.size_new, AH.size_put] <;> omega) | fail) only [amR Tryd.prog ro X, amS, seval, reduceCtorEq, ty3, ty9, ty27, ty109, h0, h5, h1, n1, g1, r0, r1, r2]
      refine (Strs.markText_a _ (by first | omega | (simp only [AH.size_new, AH.size_put] <;> omega)) _ (by omega)).mono ?_
      rintro r B1 ⟨rfl, hE1⟩
      have v1 := hE1.size
      simp (maxSteps := 2000000) (disch := first | omega | (simp only [AH.size_new, AH.size_put] <;> omega) | fail) only [amR Tryd.prog ro X, amS, seval, reduceCtorEq, ty3, ty9, ty27, ty109, h0, h5, h1, n1, g1, r0, r1, r2]
      refine ⟨fun b hb => hE1.get b hb, ?_⟩
      try simp (maxSteps := 2000000) (disch := first | omega | (simp only [AH.size_new, AH.size_put] <;> omega) | fail) only [amR Tryd.prog ro X, amS, seval, reduceCtorEq, ty3, ty9, ty27, ty109, h0, h5, h1, n1, g1, r0, r1, r2, hE1.get]
      refine ⟨l.length - (i + 1), by omega, by ((repeat' (first | exact Ext.refl _ | assumption | refine Ext.trans ?_ (Ext.new _ _) | refine Ext.put ?_ ?_ _ | refine Ext.trans ?_ (by assumption))) <;> (first | omega | (simp only [AH.size_new, AH.size_put] <;> omega))), i + 1, by omega, rfl, by congr 1 <;> omega, by rw [hnt, hnm]; congr 1; omega⟩
    · have hil : i = l.length := by simp at h; omega
      subst hil
      simp (maxSteps := 2000000) (disch := first | omega | (simp only [AH.size_new, AH.size_put] <;> omega) | fail) only [amR Tryd.prog ro X, amS, seval, reduceCtorEq, ty3, ty9, ty27, ty109, h1]
      rw [List.take_length]
      exact ⟨rfl, hE⟩
theorem mk_Program (A : AH) (hro : ro ≤ A.size) (s1 : Sl) (l1 : List TIns) (G1 : List Nat) (k : Int)
    (h1 : SlR A s1 l1 G1) (hF1 : ∀ b, b ∈ G1 → ro ≤ b) (hN : (G1).Nodup) (hk : 0 ≤ k ∧ k + (nmL l1 : Nat) < 281474976710656) :
    ACalls Tryd.prog ro X 42 [.agg #[s1.v], .int .i64 k] A (fun r A' => r = .ret (.int .i64 (k + (nmL l1 : Nat))) ∧ SlR A' s1 (mkL (k) l1) G1 ∧ ExtX (G1) A A') := by
  have hN1 := hN
  refine ACalls.enterQ (rs := [.tmp 4]) Tryd.func42 rfl (by kernel_rfl) rfl ?_
  simp (maxSteps := 2000000) (disch := first | omega | (simp only [AH.size_new, AH.size_put] <;> omega) | fail) only [amR Tryd.prog ro X, amS, seval, reduceCtorEq, ty27, ty29, ty109]
  refine (mkL_Ins _ (by first | omega | (simp only [AH.size_new, AH.size_put] <;> omega)) s1 _ G1 (h1.ext (by ((repeat' (first | exact Ext.refl _ | assumption | refine Ext.trans ?_ (Ext.new _ _) | refine Ext.put ?_ ?_ _ | refine Ext.trans ?_ (by assumption))) <;> (first | omega | (simp only [AH.size_new, AH.size_put] <;> omega))))) hF1 hN1 _ (by omega)).mono ?_
  rintro r B1 ⟨rfl, u1, hX1⟩
  have v1 := hX1.size
  try simp only [AH.size_new, AH.size_put] at v1
  have hG1 : B1.get A.size = _ := hX1.get A.size (by first | omega | (simp only [AH.size_new, AH.size_put] <;> omega)) (fun hm => by have hb := h1.bound _ hm; omega)
  simp (maxSteps := 2000000) (disch := first | omega | (simp only [AH.size_new, AH.size_put] <;> omega) | fail) only [amR Tryd.prog ro X, amS, seval, reduceCtorEq, ty27, ty29, ty109, hG1]
  exact ⟨u1, (by ((repeat' (first | exact ExtX.refl _ _ | refine ExtX.put ?_ ?_ _ | refine ExtX.new ?_ _ | refine ExtX.trans ?_ (ExtX.mono (by assumption) ?_))) <;> (intro b hb; first | exact hb | (simp at hb ⊢; first | (simp [hb]; done) | (rcases hb with hb | hb <;> simp [hb])))))⟩
theorem hd_Program (A : AH) (hro : ro ≤ A.size) (s1 : Sl) (l1 : List TIns) (G1 : List Nat) (k : Int)
    (h1 : SlR A s1 (mkL (k) l1) G1) (hk : 0 ≤ k ∧ k + (nmL l1 : Nat) < 281474976710656) :
    ACalls Tryd.prog ro X 111 [.agg #[s1.v], .int .i64 k] A (fun r A' => r = .ret (.int .i64 (k + (nmL l1 : Nat))) ∧ Ext A A') := by
  refine ACalls.enterQ (rs := [.tmp 4]) Tryd.func111 rfl (by kernel_rfl) rfl ?_
  simp (maxSteps := 2000000) (disch := first | omega | (simp only [AH.size_new, AH.size_put] <;> omega) | fail) only [amR Tryd.prog ro X, amS, seval, reduceCtorEq, ty3, ty27, ty29, ty109]
  refine (hdL_Ins _ (by first | omega | (simp only [AH.size_new, AH.size_put] <;> omega)) s1 _ _ _ (h1.ext (by ((repeat' (first | exact Ext.refl _ | assumption | refine Ext.trans ?_ (Ext.new _ _) | refine Ext.put ?_ ?_ _ | refine Ext.trans ?_ (by assumption))) <;> (first | omega | (simp only [AH.size_new, AH.size_put] <;> omega))))) (by omega)).mono ?_
  rintro r B1 ⟨rfl, hE1⟩
  have v1 := hE1.size
  try simp only [AH.size_new, AH.size_put] at v1
  have w1 : ¬ (k + (nmL l1 : Nat) < 0) := by omega
  simp (maxSteps := 2000000) (disch := first | omega | (simp only [AH.size_new, AH.size_put] <;> omega) | fail) only [amR Tryd.prog ro X, amS, seval, reduceCtorEq, ty3, ty27, ty29, ty109, hE1.get, w1]
  ((repeat' (first | exact Ext.refl _ | assumption | refine Ext.trans ?_ (Ext.new _ _) | refine Ext.put ?_ ?_ _ | refine Ext.trans ?_ (by assumption))) <;> (first | omega | (simp only [AH.size_new, AH.size_put] <;> omega)))
theorem mkL_Source (A : AH) (hro : ro ≤ A.size) (s : Sl) (l : List TSource) (F : List Nat) (hs : SlR A s l F) (hF : ∀ b, b ∈ F → ro ≤ b) (hN : F.Nodup) (k : Int) (hk : 0 ≤ k ∧ k + nmL l < 281474976710656) :
    ACalls Tryd.prog ro X 117 [s.v, .int .i64 k] A (fun r A' => r = .ret (.int .i64 (k + nmL l)) ∧ SlR A' s (mkL k l) F ∧ ExtX F A A') := by
  have hw : Dat.w TSource = 2 := rfl
  have hll : l.length ≤ nmL l := nmL_length l fun x => by show 1 ≤ 1 + (1); omega
  refine ACalls.enterQ (rs := [.tmp 4]) Tryd.func117 rfl (by kernel_rfl) rfl ?_
  simp (maxSteps := 2000000) (disch := first | omega | (simp only [AH.size_new, AH.size_put] <;> omega) | fail) only [amR Tryd.prog ro X, amS, seval, reduceCtorEq, ty3, ty9, ty39, ty116]
  refine Wp.loopC (fun n e A' => ExtX F A A' ∧ e 0 = s.v ∧ ∃ i : Nat, i ≤ l.length ∧ n = l.length - i ∧ e 5 = .int .i64 i ∧ e 1 = .int .i64 (k + nmL (l.take i)) ∧ SlR A' s (mkL k (l.take i) ++ l.drop i) F) (l.length - 0) ?_ ?_
  · simp (maxSteps := 2000000) (disch := first | omega | (simp only [AH.size_new, AH.size_put] <;> omega) | fail) only [amV, amH, amQ, amL, amN Tryd.prog, amS, seval, reduceCtorEq, ty3, ty9, ty39, ty116]
    exact ⟨ExtX.refl F A, 0, by omega, rfl, rfl, by simp [nmL], by simpa [mkL] using hs⟩
  · rintro n e A' ⟨hE, h0, i, hi, rfl, h5, h1, hs'⟩
    have hlen : s.len = l.length := by rw [hs'.len, List.length_append, mkL_length, List.length_take, List.length_drop]; omega
    have hz := hE.size
    simp (maxSteps := 2000000) (disch := first | omega | (simp only [AH.size_new, AH.size_put] <;> omega) | fail) only [amR Tryd.prog ro X, amS, seval, reduceCtorEq, ty3, ty9, ty39, ty116, h0, h5, hlen]
    refine CondB.split (fun h => ?_) (fun h => ?_)
    · have hil : i < l.length := by simp at h; omega
      have hnt := nmL_take_succ l i hil
      have hnl := nmL_take_le l (i + 1)
      have hnm : Mk.nm l[i] = 1 + (1) := rfl
      have e0x : Mk.nm l[i].1 = 1 := rfl
      have e1x : Mk.nm l[i].2 = 1 := rfl
      obtain ⟨c, Fi, ci, n1, b1, i1, hb, g1, hc, hrow, hr, hNi, q2, q3, hup⟩ := hs'.step hN (by rw [mkL_length, List.length_take, Nat.min_eq_left hi]) hil
      rw [hw] at g1 hc hrow hup
      have hrb := hF _ hb
      obtain ⟨hci, hFi, z1, z2⟩ := rep_Source.1 hr
      rw [hci] at hrow
      have r0 := row_get hrow 0 (by omega)
      have r1 := row_get hrow 1 (by omega)
      simp only [List.getElem?_cons_zero, List.getElem?_cons_succ, Nat.add_zero] at r0 r1
      simp (maxSteps := 2000000) (disch := first | omega | (simp only [AH.size_new, AH.size_put] <;> omega) | fail) only [amR Tryd.prog ro X, amS, seval, reduceCtorEq, ty3, ty9, ty39, ty116, h0, h5, h1, n1, g1, set_miss, r0, r1]
      refine (Strs.markText_a _ (by first | omega | (simp only [AH.size_new, AH.size_put] <;> omega)) _ (by omega)).mono ?_
      rintro r B1 ⟨rfl, hE1⟩
      have v1 := hE1.size
      try simp only [AH.size_new, AH.size_put] at v1
      simp (maxSteps := 2000000) (disch := first | omega | (simp only [AH.size_new, AH.size_put] <;> omega) | fail) only [amR Tryd.prog ro X, amS, seval, reduceCtorEq, ty3, ty9, ty39, ty116, h0, h5, h1, n1, g1, set_miss, r0, r1, hE1.get]
      refine (Strs.markText_a _ (by first | omega | (simp only [AH.size_new, AH.size_put] <;> omega)) _ (by omega)).mono ?_
      rintro r B2 ⟨rfl, hE2⟩
      have v2 := hE2.size
      try simp only [AH.size_new, AH.size_put] at v2
      simp (maxSteps := 2000000) (disch := first | omega | (simp only [AH.size_new, AH.size_put] <;> omega) | fail) only [amR Tryd.prog ro X, amS, seval, reduceCtorEq, ty3, ty9, ty39, ty116, h0, h5, h1, n1, g1, set_miss, r0, r1, hE1.get, hE2.get]
      refine ⟨l.length - (i + 1), by omega, by ((repeat' (first | assumption | exact ExtX.refl _ _ | refine ExtX.put ?_ ?_ _ | refine ExtX.new ?_ _ | refine ExtX.trans ?_ (Ext.x (by assumption) _) | refine ExtX.trans ?_ (ExtX.mono (by assumption) ?_))) <;> (first | omega | assumption | (intro b hb2; simp [hb2]; done) | (intro b hb2; exact q3 b (by simp [hb2])) | (simp; done))), i + 1, by omega, rfl, by congr 1 <;> omega, by rw [hnt, hnm]; congr 1; omega, ?_⟩
      rw [mkL_take_succ _ _ _ hil]
      refine hup _ _ _ (by ((repeat' (first | assumption | exact ExtX.refl _ _ | refine ExtX.put ?_ ?_ _ | refine ExtX.new ?_ _ | refine ExtX.trans ?_ (Ext.x (by assumption) _) | refine ExtX.trans ?_ (ExtX.mono (by assumption) ?_))) <;> (first | omega | assumption | (intro b hb2; simp [hb2]; done) | (intro b hb2; exact q3 b (by simp [hb2])) | (simp; done)))) (AH.get_put_self _ _ _) (by simp only [List.length_set]) (fun j hj => by simp (disch := omega) only [set_miss]) (rep_Source.2 ⟨row_of rfl (by simp only [List.length_set]; omega) (fun j hj => by
        have hj2 : j = 0 ∨ j = 1 := by omega
        rcases hj2 with rfl | rfl <;> (try simp (disch := first | omega | (simp only [List.length_set] <;> omega)) only [set_miss, set_hit, Nat.add_zero]) <;> (try simp only [r0, r1]) <;> rfl), hFi, mkText_size _ (by have : ((1 : Nat) : Int) = 1 := rfl; omega), mkText_size _ (by have : ((1 : Nat) : Int) = 1 := rfl; omega)⟩)
    · have hil : i = l.length := by simp at h; omega
      subst hil
      simp (maxSteps := 2000000) (disch := first | omega | (simp only [AH.size_new, AH.size_put] <;> omega) | fail) only [amR Tryd.prog ro X, amS, seval, reduceCtorEq, ty3, ty9, ty39, ty116, h1]
      rw [List.take_length] at h1
      rw [List.drop_length, List.append_nil, List.take_length] at hs'
      rw [List.take_length]
      exact ⟨rfl, hs', hE⟩
theorem hdL_Source (A : AH) (hro : ro ≤ A.size) (s : Sl) (l : List TSource) (F : List Nat) (k : Int) (hs : SlR A s (mkL k l) F) (hk : 0 ≤ k ∧ k + nmL l < 281474976710656) :
    ACalls Tryd.prog ro X 119 [s.v, .int .i64 k] A (fun r A' => r = .ret (.int .i64 (k + nmL l)) ∧ Ext A A') := by
  have hw : Dat.w TSource = 2 := rfl
  have hlen : s.len = l.length := by rw [hs.len, mkL_length]
  have hll : l.length ≤ nmL l := nmL_length l fun x => by show 1 ≤ 1 + (1); omega
  refine ACalls.enterQ (rs := [.tmp 4]) Tryd.func119 rfl (by kernel_rfl) rfl ?_
  simp (maxSteps := 2000000) (disch := first | omega | (simp only [AH.size_new, AH.size_put] <;> omega) | fail) only [amR Tryd.prog ro X, amS, seval, reduceCtorEq, ty3, ty9, ty39, ty116]
  refine Wp.loopC (fun n e A' => Ext A A' ∧ e 0 = s.v ∧ ∃ i : Nat, i ≤ l.length ∧ n = l.length - i ∧ e 5 = .int .i64 i ∧ e 1 = .int .i64 (k + nmL (l.take i))) (l.length - 0) ?_ ?_
  · simp (maxSteps := 2000000) (disch := first | omega | (simp only [AH.size_new, AH.size_put] <;> omega) | fail) only [amV, amH, amQ, amL, amN Tryd.prog, amS, seval, reduceCtorEq, ty3, ty9, ty39, ty116]
    exact ⟨Ext.refl A, 0, by omega, rfl, rfl, by simp [nmL]⟩
  · rintro n e A' ⟨hE, h0, i, hi, rfl, h5, h1⟩
    have hz := hE.size
    have hs' := hs.ext hE
    simp (maxSteps := 2000000) (disch := first | omega | (simp only [AH.size_new, AH.size_put] <;> omega) | fail) only [amR Tryd.prog ro X, amS, seval, reduceCtorEq, ty3, ty9, ty39, ty116, h0, h5, hlen]
    refine CondB.split (fun h => ?_) (fun h => ?_)
    · have hil : i < l.length := by simp at h; omega
      have hnt := nmL_take_succ l i hil
      have hnl := nmL_take_le l (i + 1)
      have hnm : Mk.nm l[i] = 1 + (1) := rfl
      obtain ⟨n1, b1, m1, i1, cs, Fi, c1, q1, _⟩ := hs'.row (i := i) (by rw [mkL_length]; exact hil)
      rw [aRow_eq, hw] at c1
      rw [mkL_get] at q1
      obtain ⟨c, e', g1, g2, g3⟩ := rowK_inv c1
      obtain ⟨hci, hFi, z1, z2⟩ := rep_Source.1 q1
      rw [hci] at g3
      have r0 := row_get g3 0 (by omega)
      have r1 := row_get g3 1 (by omega)
      simp only [List.getElem?_cons_zero, List.getElem?_cons_succ, Nat.add_zero] at r0 r1
      have r0 : c[s.o + i * 2]? = some (.string (mkText (k + nmL (l.take i)))) := r0
      have r1 : c[s.o + i * 2 + 1]? = some (.string (mkText (k + nmL (l.take i) + 1))) := r1
      simp (maxSteps := 2000000) (disch := first | omega | (simp only [AH.size_new, AH.size_put] <;> omega) | fail) only [amR Tryd.prog ro X, amS, seval, reduceCtorEq, ty3, ty9, ty39, ty116, h0, h5, h1, n1, g1, r0, r1]
      refine Wp.runG [6] (by kernel_rfl) (.inl (by kernel_rfl)) ?_
      simp (maxSteps := 2000000) (disch := first | omega | (simp only [AH.size_new, AH.size_put] <;> omega) | fail) only [amR Tryd.prog ro X, amS, seval, reduceCtorEq, ty3, ty9, ty39, ty116, h0, h5, h1, n1, g1, r0, r1]
      refine (Strs.markText_a _ (by first | omega | (simp only [AH.size_new, AH.size_put] <;> omega)) _ (by omega)).mono ?_
      rintro r B1 ⟨rfl, hE1⟩
      have v1 := hE1.size
      simp (maxSteps := 2000000) (disch := first | omega | (simp only [AH.size_new, AH.size_put] <;> omega) | fail) only [amR Tryd.prog ro X, amS, seval, reduceCtorEq, ty3, ty9, ty39, ty116, h0, h5, h1, n1, g1, r0, r1]
      refine ⟨fun b hb => hE1.get b hb, ?_⟩
      try simp (maxSteps := 2000000) (disch := first | omega | (simp only [AH.size_new, AH.size_put] <;> omega) | fail) only [amR Tryd.prog ro X, amS, seval, reduceCtorEq, ty3, ty9, ty39, ty116, h0, h5, h1, n1, g1, r0, r1, hE1.get]
      refine Wp.runG [6] (by kernel_rfl) (.inl (by kernel_rfl)) ?_
      simp (maxSteps := 2000000) (disch := first | omega | (simp only [AH.size_new, AH.size_put] <;> omega) | fail) only [amR Tryd.prog ro X, amS, seval, reduceCtorEq, ty3, ty9, ty39, ty116, h0, h5, h1, n1, g1, r0, r1, hE1.get]
      refine (Strs.markText_a _ (by first | omega | (simp only [AH.size_new, AH.size_put] <;> omega)) _ (by omega)).mono ?_
      rintro r B2 ⟨rfl, hE2⟩
      have v2 := hE2.size
      simp (maxSteps := 2000000) (disch := first | omega | (simp only [AH.size_new, AH.size_put] <;> omega) | fail) only [amR Tryd.prog ro X, amS, seval, reduceCtorEq, ty3, ty9, ty39, ty116, h0, h5, h1, n1, g1, r0, r1, hE1.get]
      refine ⟨fun b hb => hE2.get b hb, ?_⟩
      try simp (maxSteps := 2000000) (disch := first | omega | (simp only [AH.size_new, AH.size_put] <;> omega) | fail) only [amR Tryd.prog ro X, amS, seval, reduceCtorEq, ty3, ty9, ty39, ty116, h0, h5, h1, n1, g1, r0, r1, hE1.get, hE2.get]
      refine ⟨l.length - (i + 1), by omega, by ((repeat' (first | exact Ext.refl _ | assumption | refine Ext.trans ?_ (Ext.new _ _) | refine Ext.put ?_ ?_ _ | refine Ext.trans ?_ (by assumption))) <;> (first | omega | (simp only [AH.size_new, AH.size_put] <;> omega))), i + 1, by omega, rfl, by congr 1 <;> omega, by rw [hnt, hnm]; congr 1; omega⟩
    · have hil : i = l.length := by simp at h; omega
      subst hil
      simp (maxSteps := 2000000) (disch := first | omega | (simp only [AH.size_new, AH.size_put] <;> omega) | fail) only [amR Tryd.prog ro X, amS, seval, reduceCtorEq, ty3, ty9, ty39, ty116, h1]
      rw [List.take_length]
      exact ⟨rfl, hE⟩
theorem mkL_Target (A : AH) (hro : ro ≤ A.size) (s : Sl) (l : List TTarget) (F : List Nat) (hs : SlR A s l F) (hF : ∀ b, b ∈ F → ro ≤ b) (hN : F.Nodup) (k : Int) (hk : 0 ≤ k ∧ k + nmL l < 281474976710656) :
    ACalls Tryd.prog ro X 118 [s.v, .int .i64 k] A (fun r A' => r = .ret (.int .i64 (k + nmL l)) ∧ SlR A' s (mkL k l) F ∧ ExtX F A A') := by
  have hw : Dat.w TTarget = 2 := rfl
  have hll : l.length ≤ nmL l := nmL_length l fun x => by show 1 ≤ 1 + ((nmL x.2)); omega
  refine ACalls.enterQ (rs := [.tmp 4]) Tryd.func118 rfl (by kernel_rfl) rfl ?_
  simp (maxSteps := 2000000) (disch := first | omega | (simp only [AH.size_new, AH.size_put] <;> omega) | fail) only [amR Tryd.prog ro X, amS, seval, reduceCtorEq, ty3, ty9, ty27, ty29, ty40, ty109, ty118]
  refine Wp.loopC (fun n e A' => ExtX F A A' ∧ e 0 = s.v ∧ ∃ i : Nat, i ≤ l.length ∧ n = l.length - i ∧ e 5 = .int .i64 i ∧ e 1 = .int .i64 (k + nmL (l.take i)) ∧ SlR A' s (mkL k (l.take i) ++ l.drop i) F) (l.length - 0) ?_ ?_
  · simp (maxSteps := 2000000) (disch := first | omega | (simp only [AH.size_new, AH.size_put] <;> omega) | fail) only [amV, amH, amQ, amL, amN Tryd.prog, amS, seval, reduceCtorEq, ty3, ty9, ty27, ty29, ty40, ty109, ty118]
    exact ⟨ExtX.refl F A, 0, by omega, rfl, rfl, by simp [nmL], by simpa [mkL] using hs⟩
  · rintro n e A' ⟨hE, h0, i, hi, rfl, h5, h1, hs'⟩
    have hlen : s.len = l.length := by rw [hs'.len, List.length_append, mkL_length, List.length_take, List.length_drop]; omega
    have hz := hE.size
    simp (maxSteps := 2000000) (disch := first | omega | (simp only [AH.size_new, AH.size_put] <;> omega) | fail) only [amR Tryd.prog ro X, amS, seval, reduceCtorEq, ty3, ty9, ty27, ty29, ty40, ty109, ty118, h0, h5, hlen]
    refine CondB.split (fun h => ?_) (fun h => ?_)
    · have hil : i < l.length := by simp at h; omega
      have hnt := nmL_take_succ l i hil
      have hnl := nmL_take_le l (i + 1)
      have hnm : Mk.nm l[i] = 1 + ((nmL l[i].2)) := rfl
      have e0x : Mk.nm l[i].1 = 1 := rfl
      have e1x : Mk.nm l[i].2 = nmL l[i].2 := rfl
      obtain ⟨c, Fi, ci, n1, b1, i1, hb, g1, hc, hrow, hr, hNi, q2, q3, hup⟩ := hs'.step hN (by rw [mkL_length, List.length_take, Nat.min_eq_left hi]) hil
      rw [hw] at g1 hc hrow hup
      have hrb := hF _ hb
      obtain ⟨s1, G1, hci, hFi, z1, h1'⟩ := rep_Target.1 hr
      rw [hci] at hrow
      have r0 := row_get hrow 0 (by omega)
      have r1 := row_get hrow 1 (by omega)
      simp only [List.getElem?_cons_zero, List.getElem?_cons_succ, Nat.add_zero] at r0 r1
      subst hFi
      simp (maxSteps := 2000000) (disch := first | omega | (simp only [AH.size_new, AH.size_put] <;> omega) | fail) only [amR Tryd.prog ro X, amS, seval, reduceCtorEq, ty3, ty9, ty27, ty29, ty40, ty109, ty118, h0, h5, h1, n1, g1, set_miss, r0, r1]
      refine (Strs.markText_a _ (by first | omega | (simp only [AH.size_new, AH.size_put] <;> omega)) _ (by omega)).mono ?_
      rintro r B1 ⟨rfl, hE1⟩
      have v1 := hE1.size
      try simp only [AH.size_new, AH.size_put] at v1
      simp (maxSteps := 2000000) (disch := first | omega | (simp only [AH.size_new, AH.size_put] <;> omega) | fail) only [amR Tryd.prog ro X, amS, seval, reduceCtorEq, ty3, ty9, ty27, ty29, ty40, ty109, ty118, h0, h5, h1, n1, g1, set_miss, r0, r1, hE1.get]
      refine (mkL_Ins _ (by first | omega | (simp only [AH.size_new, AH.size_put] <;> omega)) s1 _ Fi (h1'.extx (F := [s.b]) (by ((repeat' (first | assumption | exact ExtX.refl _ _ | refine ExtX.put ?_ ?_ _ | refine ExtX.new ?_ _ | refine ExtX.trans ?_ (Ext.x (by assumption) _) | refine ExtX.trans ?_ (ExtX.mono (by assumption) ?_))) <;> (first | omega | assumption | (intro b hb2; simp [hb2]; done) | (intro b hb2; exact q3 b (by simp [hb2])) | (simp; done)))) (fun b hb2 hm => q2 (by simp only [List.mem_singleton] at hm; subst hm; simp [hb2]))) (fun b hb2 => hF b (q3 b (by simp [hb2]))) hNi _ (by omega)).mono ?_
      rintro r B2 ⟨rfl, u1, hX2⟩
      have v2 := hX2.size
      try simp only [AH.size_new, AH.size_put] at v2
      have g2x := hX2.get s.b (by first | omega | (simp only [AH.size_new, AH.size_put] <;> omega)) (fun hm => q2 (by simp [hm]))
      simp (maxSteps := 2000000) (disch := first | omega | (simp only [AH.size_new, AH.size_put] <;> omega) | fail) only [amR Tryd.prog ro X, amS, seval, reduceCtorEq, ty3, ty9, ty27, ty29, ty40, ty109, ty118, h0, h5, h1, n1, g1, set_miss, r0, r1, hE1.get, g2x]
      refine ⟨l.length - (i + 1), by omega, by ((repeat' (first | assumption | exact ExtX.refl _ _ | refine ExtX.put ?_ ?_ _ | refine ExtX.new ?_ _ | refine ExtX.trans ?_ (Ext.x (by assumption) _) | refine ExtX.trans ?_ (ExtX.mono (by assumption) ?_))) <;> (first | omega | assumption | (intro b hb2; simp [hb2]; done) | (intro b hb2; exact q3 b (by simp [hb2])) | (simp; done))), i + 1, by omega, rfl, by congr 1 <;> omega, by rw [hnt, hnm]; congr 1; omega, ?_⟩
      rw [mkL_take_succ _ _ _ hil]
      refine hup _ _ _ (by ((repeat' (first | assumption | exact ExtX.refl _ _ | refine ExtX.put ?_ ?_ _ | refine ExtX.new ?_ _ | refine ExtX.trans ?_ (Ext.x (by assumption) _) | refine ExtX.trans ?_ (ExtX.mono (by assumption) ?_))) <;> (first | omega | assumption | (intro b hb2; simp [hb2]; done) | (intro b hb2; exact q3 b (by simp [hb2])) | (simp; done)))) ((hX2.get _ (by first | omega | (simp only [AH.size_new, AH.size_put] <;> omega)) (fun hm => q2 (by simp [hm]))).trans (AH.get_put_self _ _ _)) (by simp only [List.length_set]) (fun j hj => by simp (disch := omega) only [set_miss]) (rep_Target.2 ⟨s1, _, row_of rfl (by simp only [List.length_set]; omega) (fun j hj => by
        have hj2 : j = 0 ∨ j = 1 := by omega
        rcases hj2 with rfl | rfl <;> (try simp (disch := first | omega | (simp only [List.length_set] <;> omega)) only [set_miss, set_hit, Nat.add_zero]) <;> (try simp only [r0, r1]) <;> rfl), rfl, mkText_size _ (by have : ((1 : Nat) : Int) = 1 := rfl; omega), u1.extx (F := [s.b]) (by ((repeat' (first | assumption | exact ExtX.refl _ _ | refine ExtX.put ?_ ?_ _ | refine ExtX.new ?_ _ | refine ExtX.trans ?_ (Ext.x (by assumption) _) | refine ExtX.trans ?_ (ExtX.mono (by assumption) ?_))) <;> (first | omega | assumption | (intro b hb2; simp [hb2]; done) | (intro b hb2; exact q3 b (by simp [hb2])) | (simp; done)))) (fun b hb2 hm => q2 (by simp only [List.mem_singleton] at hm; subst hm; simp [hb2]))⟩)
    · have hil : i = l.length := by simp at h; omega
      subst hil
      simp (maxSteps := 2000000) (disch := first | omega | (simp only [AH.size_new, AH.size_put] <;> omega) | fail) only [amR Tryd.prog ro X, amS, seval, reduceCtorEq, ty3, ty9, ty27, ty29, ty40, ty109, ty118, h1]
      rw [List.take_length] at h1
      rw [List.drop_length, List.append_nil, List.take_length] at hs'
      rw [List.take_length]
      exact ⟨rfl, hs', hE⟩
theorem hdL_Target (A : AH) (hro : ro ≤ A.size) (s : Sl) (l : List TTarget) (F : List Nat) (k : Int) (hs : SlR A s (mkL k l) F) (hk : 0 ≤ k ∧ k + nmL l < 281474976710656) :
    ACalls Tryd.prog ro X 120 [s.v, .int .i64 k] A (fun r A' => r = .ret (.int .i64 (k + nmL l)) ∧ Ext A A') := by
  have hw : Dat.w TTarget = 2 := rfl
  have hlen : s.len = l.length := by rw [hs.len, mkL_length]
  have hll : l.length ≤ nmL l := nmL_length l fun x => by show 1 ≤ 1 + ((nmL x.2)); omega
  refine ACalls.enterQ (rs := [.tmp 4]) Tryd.func120 rfl (by kernel_rfl) rfl ?_
  simp (maxSteps := 2000000) (disch := first | omega | (simp only [AH.size_new, AH.size_put] <;> omega) | fail) only [amR Tryd.prog ro X, amS, seval, reduceCtorEq, ty3, ty9, ty27, ty29, ty40, ty109, ty118]
  refine Wp.loopC (fun n e A' => Ext A A' ∧ e 0 = s.v ∧ ∃ i : Nat, i ≤ l.length ∧ n = l.length - i ∧ e 5 = .int .i64 i ∧ e 1 = .int .i64 (k + nmL (l.take i))) (l.length - 0) ?_ ?_
  · simp (maxSteps := 2000000) (disch := first | omega | (simp only [AH.size_new, AH.size_put] <;> omega) | fail) only [amV, amH, amQ, amL, amN Tryd.prog, amS, seval, reduceCtorEq, ty3, ty9, ty27, ty29, ty40, ty109, ty118]
    exact ⟨Ext.refl A, 0, by omega, rfl, rfl, by simp [nmL]⟩
  · rintro n e A' ⟨hE, h0, i, hi, rfl, h5, h1⟩
    have hz := hE.size
    have hs' := hs.ext hE
    simp (maxSteps := 2000000) (disch := first | omega | (simp only [AH.size_new, AH.size_put] <;> omega) | fail) only [amR Tryd.prog ro X, amS, seval, reduceCtorEq, ty3, ty9, ty27, ty29, ty40, ty109, ty118, h0, h5, hlen]
    refine CondB.split (fun h => ?_) (fun h => ?_)
    · have hil : i < l.length := by simp at h; omega
      have hnt := nmL_take_succ l i hil
      have hnl := nmL_take_le l (i + 1)
      have hnm : Mk.nm l[i] = 1 + ((nmL l[i].2)) := rfl
      obtain ⟨n1, b1, m1, i1, cs, Fi, c1, q1, _⟩ := hs'.row (i := i) (by rw [mkL_length]; exact hil)
      rw [aRow_eq, hw] at c1
      rw [mkL_get] at q1
      obtain ⟨c, e', g1, g2, g3⟩ := rowK_inv c1
      obtain ⟨s1, G1, hci, hFi, z1, h1'⟩ := rep_Target.1 q1
      rw [hci] at g3
      have r0 := row_get g3 0 (by omega)
      have r1 := row_get g3 1 (by omega)
      simp only [List.getElem?_cons_zero, List.getElem?_cons_succ, Nat.add_zero] at r0 r1
      have r0 : c[s.o + i * 2]? = some (.string (mkText (k + nmL (l.take i)))) := r0
      have h1' : SlR A' s1 (mkL (k + nmL (l.take i) + 1) l[i].2) G1 := h1'
      simp (maxSteps := 2000000) (disch := first | omega | (simp only [AH.size_new, AH.size_put] <;> omega) | fail) only [amR Tryd.prog ro X, amS, seval, reduceCtorEq, ty3, ty9, ty27, ty29, ty40, ty109, ty118, h0, h5, h1, n1, g1, r0, r1]
      refine Wp.runG [6] (by kernel_rfl) (.inl (by kernel_rfl)) ?_
      simp (maxSteps := 2000000) (disch := first | omega | (simp only [AH.size_new, AH.size_put] <;> omega) | fail) only [amR Tryd.prog ro X, amS, seval, reduceCtorEq, ty3, ty9, ty27, ty29, ty40, ty109, ty118, h0, h5, h1, n1, g1, r0, r1]
      refine (Strs.markText_a _ (by first | omega | (simp only [AH.size_new, AH.size_put] <;> omega)) _ (by omega)).mono ?_
      rintro r B1 ⟨rfl, hE1⟩
      have v1 := hE1.size
      simp (maxSteps := 2000000) (disch := first | omega | (simp only [AH.size_new, AH.size_put] <;> omega) | fail) only [amR Tryd.prog ro X, amS, seval, reduceCtorEq, ty3, ty9, ty27, ty29, ty40, ty109, ty118, h0, h5, h1, n1, g1, r0, r1]
      refine ⟨fun b hb => hE1.get b hb, ?_⟩
      try simp (maxSteps := 2000000) (disch := first | omega | (simp only [AH.size_new, AH.size_put] <;> omega) | fail) only [amR Tryd.prog ro X, amS, seval, reduceCtorEq, ty3, ty9, ty27, ty29, ty40, ty109, ty118, h0, h5, h1, n1, g1, r0, r1, hE1.get]
      refine (hdL_Ins _ (by first | omega | (simp only [AH.size_new, AH.size_put] <;> omega)) s1 _ _ _ (h1'.ext (by ((repeat' (first | exact Ext.refl _ | assumption | refine Ext.trans ?_ (Ext.new _ _) | refine Ext.put ?_ ?_ _ | refine Ext.trans ?_ (by assumption))) <;> (first | omega | (simp only [AH.size_new, AH.size_put] <;> omega))))) (by omega)).mono ?_
      rintro r B2 ⟨rfl, hE2⟩
      have v2 := hE2.size
      have w2 : ¬ (k + nmL (l.take i) + 1 + (nmL l[i].2 : Nat) < 0) := by omega
      simp (maxSteps := 2000000) (disch := first | omega | (simp only [AH.size_new, AH.size_put] <;> omega) | fail) only [amR Tryd.prog ro X, amS, seval, reduceCtorEq, ty3, ty9, ty27, ty29, ty40, ty109, ty118, h0, h5, h1, n1, g1, r0, r1, hE1.get, hE2.get, w2]
      refine ⟨l.length - (i + 1), by omega, by ((repeat' (first | exact Ext.refl _ | assumption | refine Ext.trans ?_ (Ext.new _ _) | refine Ext.put ?_ ?_ _ | refine Ext.trans ?_ (by assumption))) <;> (first | omega | (simp only [AH.size_new, AH.size_put] <;> omega))), i + 1, by omega, rfl, by congr 1 <;> omega, by rw [hnt, hnm]; congr 1; omega⟩
    · have hil : i = l.length := by simp at h; omega
      subst hil
      simp (maxSteps := 2000000) (disch := first | omega | (simp only [AH.size_new, AH.size_put] <;> omega) | fail) only [amR Tryd.prog ro X, amS, seval, reduceCtorEq, ty3, ty9, ty27, ty29, ty40, ty109, ty118, h1]
      rw [List.take_length]
      exact ⟨rfl, hE⟩
theorem mk_Space (A : AH) (hro : ro ≤ A.size) (s1 : Sl) (l1 : List TSource) (G1 : List Nat) (s2 : Sl) (l2 : List TTarget) (G2 : List Nat) (k : Int)
    (h1 : SlR A s1 l1 G1) (hF1 : ∀ b, b ∈ G1 → ro ≤ b) (h2 : SlR A s2 l2 G2) (hF2 : ∀ b, b ∈ G2 → ro ≤ b) (hN : (G1 ++ (G2)).Nodup) (hk : 0 ≤ k ∧ k + (nmL l1 : Nat) + (nmL l2 : Nat) < 281474976710656) :
    ACalls Tryd.prog ro X 49 [.agg #[s1.v, s2.v], .int .i64 k] A (fun r A' => r = .ret (.int .i64 (k + (nmL l1 : Nat) + (nmL l2 : Nat))) ∧ SlR A' s1 (mkL (k) l1) G1 ∧ SlR A' s2 (mkL (k + (nmL l1 : Nat)) l2) G2 ∧ ExtX (G1 ++ (G2)) A A') := by
  have hN1 := hN
  have D1 : ∀ b, b ∈ G1 → b ∉ G2 := fun b hb hm => (List.nodup_append.1 hN1).2.2 b hb b hm rfl
  have hN2 := (List.nodup_append.1 hN1).2.1
  refine ACalls.enterQ (rs := [.tmp 4]) Tryd.func49 rfl (by kernel_rfl) rfl ?_
  simp (maxSteps := 2000000) (disch := first | omega | (simp only [AH.size_new, AH.size_put] <;> omega) | fail) only [amR Tryd.prog ro X, amS, seval, reduceCtorEq, ty39, ty40, ty42, ty116, ty118]
  refine (mkL_Source _ (by first | omega | (simp only [AH.size_new, AH.size_put] <;> omega)) s1 _ G1 (h1.ext (by ((repeat' (first | exact Ext.refl _ | assumption | refine Ext.trans ?_ (Ext.new _ _) | refine Ext.put ?_ ?_ _ | refine Ext.trans ?_ (by assumption))) <;> (first | omega | (simp only [AH.size_new, AH.size_put] <;> omega))))) hF1 (List.nodup_append.1 hN1).1 _ (by omega)).mono ?_
  rintro r B1 ⟨rfl, u1, hX1⟩
  have v1 := hX1.size
  try simp only [AH.size_new, AH.size_put] at v1
  have x2k1 := (h2.ext (by ((repeat' (first | exact Ext.refl _ | assumption | refine Ext.trans ?_ (Ext.new _ _) | refine Ext.put ?_ ?_ _ | refine Ext.trans ?_ (by assumption))) <;> (first | omega | (simp only [AH.size_new, AH.size_put] <;> omega))))).extx hX1 (fun b hb hm => D1 b hm (by first | exact hb | simp [hb]))
  have hG1 : B1.get A.size = _ := hX1.get A.size (by first | omega | (simp only [AH.size_new, AH.size_put] <;> omega)) (fun hm => by have hb := h1.bound _ hm; omega)
  simp (maxSteps := 2000000) (disch := first | omega | (simp only [AH.size_new, AH.size_put] <;> omega) | fail) only [amR Tryd.prog ro X, amS, seval, reduceCtorEq, ty39, ty40, ty42, ty116, ty118, hG1]
  refine (mkL_Target _ (by first | omega | (simp only [AH.size_new, AH.size_put] <;> omega)) s2 _ G2 x2k1 hF2 hN2 _ (by omega)).mono ?_
  rintro r B2 ⟨rfl, u2, hX2⟩
  have v2 := hX2.size
  try simp only [AH.size_new, AH.size_put] at v2
  have x1k2 := (u1).extx hX2 (fun b hb hm => D1 b hb (by first | exact hm | simp [hm]))
  have hG2 : B2.get A.size = _ := hX2.get A.size (by first | omega | (simp only [AH.size_new, AH.size_put] <;> omega)) (fun hm => by have hb := h2.bound _ hm; omega)
  simp (maxSteps := 2000000) (disch := first | omega | (simp only [AH.size_new, AH.size_put] <;> omega) | fail) only [amR Tryd.prog ro X, amS, seval, reduceCtorEq, ty39, ty40, ty42, ty116, ty118, hG1, hG2]
  exact ⟨x1k2, u2, (by ((repeat' (first | exact ExtX.refl _ _ | refine ExtX.put ?_ ?_ _ | refine ExtX.new ?_ _ | refine ExtX.trans ?_ (ExtX.mono (by assumption) ?_))) <;> (intro b hb; first | exact hb | (simp at hb ⊢; first | (simp [hb]; done) | (rcases hb with hb | hb <;> simp [hb])))))⟩
theorem hd_Space (A : AH) (hro : ro ≤ A.size) (s1 : Sl) (l1 : List TSource) (G1 : List Nat) (s2 : Sl) (l2 : List TTarget) (G2 : List Nat) (k : Int)
    (h1 : SlR A s1 (mkL (k) l1) G1) (h2 : SlR A s2 (mkL (k + (nmL l1 : Nat)) l2) G2) (hk : 0 ≤ k ∧ k + (nmL l1 : Nat) + (nmL l2 : Nat) < 281474976710656) :
    ACalls Tryd.prog ro X 50 [.agg #[s1.v, s2.v], .int .i64 k] A (fun r A' => r = .ret (.int .i64 (k + (nmL l1 : Nat) + (nmL l2 : Nat))) ∧ Ext A A') := by
  refine ACalls.enterQ (rs := [.tmp 4]) Tryd.func50 rfl (by kernel_rfl) rfl ?_
  simp (maxSteps := 2000000) (disch := first | omega | (simp only [AH.size_new, AH.size_put] <;> omega) | fail) only [amR Tryd.prog ro X, amS, seval, reduceCtorEq, ty3, ty39, ty40, ty42, ty116, ty118]
  refine (hdL_Source _ (by first | omega | (simp only [AH.size_new, AH.size_put] <;> omega)) s1 _ _ _ (h1.ext (by ((repeat' (first | exact Ext.refl _ | assumption | refine Ext.trans ?_ (Ext.new _ _) | refine Ext.put ?_ ?_ _ | refine Ext.trans ?_ (by assumption))) <;> (first | omega | (simp only [AH.size_new, AH.size_put] <;> omega))))) (by omega)).mono ?_
  rintro r B1 ⟨rfl, hE1⟩
  have v1 := hE1.size
  try simp only [AH.size_new, AH.size_put] at v1
  have w1 : ¬ (k + (nmL l1 : Nat) < 0) := by omega
  simp (maxSteps := 2000000) (disch := first | omega | (simp only [AH.size_new, AH.size_put] <;> omega) | fail) only [amR Tryd.prog ro X, amS, seval, reduceCtorEq, ty3, ty39, ty40, ty42, ty116, ty118, hE1.get, w1]
  refine (hdL_Target _ (by first | omega | (simp only [AH.size_new, AH.size_put] <;> omega)) s2 _ _ _ (h2.ext (by ((repeat' (first | exact Ext.refl _ | assumption | refine Ext.trans ?_ (Ext.new _ _) | refine Ext.put ?_ ?_ _ | refine Ext.trans ?_ (by assumption))) <;> (first | omega | (simp only [AH.size_new, AH.size_put] <;> omega))))) (by omega)).mono ?_
  rintro r B2 ⟨rfl, hE2⟩
  have v2 := hE2.size
  try simp only [AH.size_new, AH.size_put] at v2
  have w2 : ¬ (k + (nmL l1 : Nat) + (nmL l2 : Nat) < 0) := by omega
  simp (maxSteps := 2000000) (disch := first | omega | (simp only [AH.size_new, AH.size_put] <;> omega) | fail) only [amR Tryd.prog ro X, amS, seval, reduceCtorEq, ty3, ty39, ty40, ty42, ty116, ty118, hE1.get, w1, hE2.get, w2]
  ((repeat' (first | exact Ext.refl _ | assumption | refine Ext.trans ?_ (Ext.new _ _) | refine Ext.put ?_ ?_ _ | refine Ext.trans ?_ (by assumption))) <;> (first | omega | (simp only [AH.size_new, AH.size_put] <;> omega)))
theorem mk_Result (A : AH) (hro : ro ≤ A.size) (a1 : Int) (a2 : ByteArray) (s1 : Sl) (l1 : List ByteArray) (G1 : List Nat) (k : Int)
    (h1 : SlR A s1 l1 G1) (hF1 : ∀ b, b ∈ G1 → ro ≤ b) (hN : (G1).Nodup) (hk : 0 ≤ k ∧ k + (nmL l1 : Nat) < 281474976710656) :
    ACalls Tryd.prog ro X 44 [.agg #[.int .i64 a1, .string a2, s1.v], .int .i64 k] A (fun r A' => r = .ret (.int .i64 (k + (nmL l1 : Nat))) ∧ SlR A' s1 (mkL (k) l1) G1 ∧ ExtX (G1) A A') := by
  have hN1 := hN
  refine ACalls.enterQ (rs := [.tmp 4]) Tryd.func44 rfl (by kernel_rfl) rfl ?_
  simp (maxSteps := 2000000) (disch := first | omega | (simp only [AH.size_new, AH.size_put] <;> omega) | fail) only [amR Tryd.prog ro X, amS, seval, reduceCtorEq, ty3, ty9, ty47, ty73]
  refine (mkL_str _ (by first | omega | (simp only [AH.size_new, AH.size_put] <;> omega)) s1 _ G1 (h1.ext (by ((repeat' (first | exact Ext.refl _ | assumption | refine Ext.trans ?_ (Ext.new _ _) | refine Ext.put ?_ ?_ _ | refine Ext.trans ?_ (by assumption))) <;> (first | omega | (simp only [AH.size_new, AH.size_put] <;> omega))))) hF1 hN1 _ (by omega)).mono ?_
  rintro r B1 ⟨rfl, u1, hX1⟩
  have v1 := hX1.size
  try simp only [AH.size_new, AH.size_put] at v1
  have hG1 : B1.get A.size = _ := hX1.get A.size (by first | omega | (simp only [AH.size_new, AH.size_put] <;> omega)) (fun hm => by have hb := h1.bound _ hm; omega)
  simp (maxSteps := 2000000) (disch := first | omega | (simp only [AH.size_new, AH.size_put] <;> omega) | fail) only [amR Tryd.prog ro X, amS, seval, reduceCtorEq, ty3, ty9, ty47, ty73, hG1]
  exact ⟨u1, (by ((repeat' (first | exact ExtX.refl _ _ | refine ExtX.put ?_ ?_ _ | refine ExtX.new ?_ _ | refine ExtX.trans ?_ (ExtX.mono (by assumption) ?_))) <;> (intro b hb; first | exact hb | (simp at hb ⊢; first | (simp [hb]; done) | (rcases hb with hb | hb <;> simp [hb])))))⟩
theorem mkL_Seen (A : AH) (hro : ro ≤ A.size) (s : Sl) (l : List TSeen) (F : List Nat) (hs : SlR A s l F) (hF : ∀ b, b ∈ F → ro ≤ b) (hN : F.Nodup) (k : Int) (hk : 0 ≤ k ∧ k + nmL l < 281474976710656) :
    ACalls Tryd.prog ro X 43 [s.v, .int .i64 k] A (fun r A' => r = .ret (.int .i64 (k + nmL l)) ∧ SlR A' s (mkL k l) F ∧ ExtX F A A') := by
  have hw : Dat.w TSeen = 3 := rfl
  have hll : l.length ≤ nmL l := nmL_length l fun x => by show 1 ≤ 1 + (1 + (1)); omega
  refine ACalls.enterQ (rs := [.tmp 4]) Tryd.func43 rfl (by kernel_rfl) rfl ?_
  simp (maxSteps := 2000000) (disch := first | omega | (simp only [AH.size_new, AH.size_put] <;> omega) | fail) only [amR Tryd.prog ro X, amS, seval, reduceCtorEq, ty3, ty4, ty9, ty71, ty151]
  refine Wp.loopC (fun n e A' => ExtX F A A' ∧ e 0 = s.v ∧ ∃ i : Nat, i ≤ l.length ∧ n = l.length - i ∧ e 5 = .int .i64 i ∧ e 1 = .int .i64 (k + nmL (l.take i)) ∧ SlR A' s (mkL k (l.take i) ++ l.drop i) F) (l.length - 0) ?_ ?_
  · simp (maxSteps := 2000000) (disch := first | omega | (simp only [AH.size_new, AH.size_put] <;> omega) | fail) only [amV, amH, amQ, amL, amN Tryd.prog, amS, seval, reduceCtorEq, ty3, ty4, ty9, ty71, ty151]
    exact ⟨ExtX.refl F A, 0, by omega, rfl, rfl, by simp [nmL], by simpa [mkL] using hs⟩
  · rintro n e A' ⟨hE, h0, i, hi, rfl, h5, h1, hs'⟩
    have hlen : s.len = l.length := by rw [hs'.len, List.length_append, mkL_length, List.length_take, List.length_drop]; omega
    have hz := hE.size
    simp (maxSteps := 2000000) (disch := first | omega | (simp only [AH.size_new, AH.size_put] <;> omega) | fail) only [amR Tryd.prog ro X, amS, seval, reduceCtorEq, ty3, ty4, ty9, ty71, ty151, h0, h5, hlen]
    refine CondB.split (fun h => ?_) (fun h => ?_)
    · have hil : i < l.length := by simp at h; omega
      have hnt := nmL_take_succ l i hil
      have hnl := nmL_take_le l (i + 1)
      have hnm : Mk.nm l[i] = 1 + (1 + (1)) := rfl
      have e0x : Mk.nm l[i].1 = 1 := rfl
      have e1x : Mk.nm l[i].2.1 = 1 := rfl
      have e2x : Mk.nm l[i].2.2 = 1 := rfl
      obtain ⟨c, Fi, ci, n1, b1, i1, hb, g1, hc, hrow, hr, hNi, q2, q3, hup⟩ := hs'.step hN (by rw [mkL_length, List.length_take, Nat.min_eq_left hi]) hil
      rw [hw] at g1 hc hrow hup
      have hrb := hF _ hb
      obtain ⟨hci, hFi, z1, z2⟩ := rep_Seen.1 hr
      rw [hci] at hrow
      have r0 := row_get hrow 0 (by omega)
      have r1 := row_get hrow 1 (by omega)
      have r2 := row_get hrow 2 (by omega)
      simp only [List.getElem?_cons_zero, List.getElem?_cons_succ, Nat.add_zero] at r0 r1 r2
      simp (maxSteps := 2000000) (disch := first | omega | (simp only [AH.size_new, AH.size_put] <;> omega) | fail) only [amR Tryd.prog ro X, amS, seval, reduceCtorEq, ty3, ty4, ty9, ty71, ty151, h0, h5, h1, n1, g1, set_miss, r0, r1, r2]
      refine (Strs.markText_a _ (by first | omega | (simp only [AH.size_new, AH.size_put] <;> omega)) _ (by omega)).mono ?_
      rintro r B1 ⟨rfl, hE1⟩
      have v1 := hE1.size
      try simp only [AH.size_new, AH.size_put] at v1
      simp (maxSteps := 2000000) (disch := first | omega | (simp only [AH.size_new, AH.size_put] <;> omega) | fail) only [amR Tryd.prog ro X, amS, seval, reduceCtorEq, ty3, ty4, ty9, ty71, ty151, h0, h5, h1, n1, g1, set_miss, r0, r1, r2, hE1.get]
      refine (Strs.markText_a _ (by first | omega | (simp only [AH.size_new, AH.size_put] <;> omega)) _ (by omega)).mono ?_
      rintro r B2 ⟨rfl, hE2⟩
      have v2 := hE2.size
      try simp only [AH.size_new, AH.size_put] at v2
      simp (maxSteps := 2000000) (disch := first | omega | (simp only [AH.size_new, AH.size_put] <;> omega) | fail) only [amR Tryd.prog ro X, amS, seval, reduceCtorEq, ty3, ty4, ty9, ty71, ty151, h0, h5, h1, n1, g1, set_miss, r0, r1, r2, hE1.get, hE2.get]
      refine ⟨l.length - (i + 1), by omega, by ((repeat' (first | assumption | exact ExtX.refl _ _ | refine ExtX.put ?_ ?_ _ | refine ExtX.new ?_ _ | refine ExtX.trans ?_ (Ext.x (by assumption) _) | refine ExtX.trans ?_ (ExtX.mono (by assumption) ?_))) <;> (first | omega | assumption | (intro b hb2; simp [hb2]; done) | (intro b hb2; exact q3 b (by simp [hb2])) | (simp; done))), i + 1, by omega, rfl, by congr 1 <;> omega, by rw [hnt, hnm]; congr 1; omega, ?_⟩
      rw [mkL_take_succ _ _ _ hil]
      refine hup _ _ _ (by ((repeat' (first | assumption | exact ExtX.refl _ _ | refine ExtX.put ?_ ?_ _ | refine ExtX.new ?_ _ | refine ExtX.trans ?_ (Ext.x (by assumption) _) | refine ExtX.trans ?_ (ExtX.mono (by assumption) ?_))) <;> (first | omega | assumption | (intro b hb2; simp [hb2]; done) | (intro b hb2; exact q3 b (by simp [hb2])) | (simp; done)))) (AH.get_put_self _ _ _) (by simp only [List.length_set]) (fun j hj => by simp (disch := omega) only [set_miss]) (rep_Seen.2 ⟨row_of rfl (by simp only [List.length_set]; omega) (fun j hj => by
        have hj2 : j = 0 ∨ j = 1 ∨ j = 2 := by omega
        rcases hj2 with rfl | rfl | rfl <;> (try simp (disch := first | omega | (simp only [List.length_set] <;> omega)) only [set_miss, set_hit, Nat.add_zero]) <;> (try simp only [r0, r1, r2]) <;> rfl), hFi, mkText_size _ (by have : ((1 : Nat) : Int) = 1 := rfl; omega), mkText_size _ (by have : ((1 : Nat) : Int) = 1 := rfl; omega)⟩)
    · have hil : i = l.length := by simp at h; omega
      subst hil
      simp (maxSteps := 2000000) (disch := first | omega | (simp only [AH.size_new, AH.size_put] <;> omega) | fail) only [amR Tryd.prog ro X, amS, seval, reduceCtorEq, ty3, ty4, ty9, ty71, ty151, h1]
      rw [List.take_length] at h1
      rw [List.drop_length, List.append_nil, List.take_length] at hs'
      rw [List.take_length]
      exact ⟨rfl, hs', hE⟩
theorem mkL_Glance (A : AH) (hro : ro ≤ A.size) (s : Sl) (l : List TGlance) (F : List Nat) (hs : SlR A s l F) (hF : ∀ b, b ∈ F → ro ≤ b) (hN : F.Nodup) (k : Int) (hk : 0 ≤ k ∧ k + nmL l < 281474976710656) :
    ACalls Tryd.prog ro X 110 [s.v, .int .i64 k] A (fun r A' => r = .ret (.int .i64 (k + nmL l)) ∧ SlR A' s (mkL k l) F ∧ ExtX F A A') := by
  have hw : Dat.w TGlance = 3 := rfl
  have hll : l.length ≤ nmL l := nmL_length l fun x => by show 1 ≤ 1 + (1 + (1)); omega
  refine ACalls.enterQ (rs := [.tmp 4]) Tryd.func110 rfl (by kernel_rfl) rfl ?_
  simp (maxSteps := 2000000) (disch := first | omega | (simp only [AH.size_new, AH.size_put] <;> omega) | fail) only [amR Tryd.prog ro X, amS, seval, reduceCtorEq, ty3, ty4, ty9, ty67, ty153]
  refine Wp.loopC (fun n e A' => ExtX F A A' ∧ e 0 = s.v ∧ ∃ i : Nat, i ≤ l.length ∧ n = l.length - i ∧ e 5 = .int .i64 i ∧ e 1 = .int .i64 (k + nmL (l.take i)) ∧ SlR A' s (mkL k (l.take i) ++ l.drop i) F) (l.length - 0) ?_ ?_
  · simp (maxSteps := 2000000) (disch := first | omega | (simp only [AH.size_new, AH.size_put] <;> omega) | fail) only [amV, amH, amQ, amL, amN Tryd.prog, amS, seval, reduceCtorEq, ty3, ty4, ty9, ty67, ty153]
    exact ⟨ExtX.refl F A, 0, by omega, rfl, rfl, by simp [nmL], by simpa [mkL] using hs⟩
  · rintro n e A' ⟨hE, h0, i, hi, rfl, h5, h1, hs'⟩
    have hlen : s.len = l.length := by rw [hs'.len, List.length_append, mkL_length, List.length_take, List.length_drop]; omega
    have hz := hE.size
    simp (maxSteps := 2000000) (disch := first | omega | (simp only [AH.size_new, AH.size_put] <;> omega) | fail) only [amR Tryd.prog ro X, amS, seval, reduceCtorEq, ty3, ty4, ty9, ty67, ty153, h0, h5, hlen]
    refine CondB.split (fun h => ?_) (fun h => ?_)
    · have hil : i < l.length := by simp at h; omega
      have hnt := nmL_take_succ l i hil
      have hnl := nmL_take_le l (i + 1)
      have hnm : Mk.nm l[i] = 1 + (1 + (1)) := rfl
      have e0x : Mk.nm l[i].1 = 1 := rfl
      have e1x : Mk.nm l[i].2.1 = 1 := rfl
      have e2x : Mk.nm l[i].2.2 = 1 := rfl
      obtain ⟨c, Fi, ci, n1, b1, i1, hb, g1, hc, hrow, hr, hNi, q2, q3, hup⟩ := hs'.step hN (by rw [mkL_length, List.length_take, Nat.min_eq_left hi]) hil
      rw [hw] at g1 hc hrow hup
      have hrb := hF _ hb
      obtain ⟨hci, hFi, z1, z2⟩ := rep_Glance.1 hr
      rw [hci] at hrow
      have r0 := row_get hrow 0 (by omega)
      have r1 := row_get hrow 1 (by omega)
      have r2 := row_get hrow 2 (by omega)
      simp only [List.getElem?_cons_zero, List.getElem?_cons_succ, Nat.add_zero] at r0 r1 r2
      simp (maxSteps := 2000000) (disch := first | omega | (simp only [AH.size_new, AH.size_put] <;> omega) | fail) only [amR Tryd.prog ro X, amS, seval, reduceCtorEq, ty3, ty4, ty9, ty67, ty153, h0, h5, h1, n1, g1, set_miss, r0, r1, r2]
      refine (Strs.markText_a _ (by first | omega | (simp only [AH.size_new, AH.size_put] <;> omega)) _ (by omega)).mono ?_
      rintro r B1 ⟨rfl, hE1⟩
      have v1 := hE1.size
      try simp only [AH.size_new, AH.size_put] at v1
      simp (maxSteps := 2000000) (disch := first | omega | (simp only [AH.size_new, AH.size_put] <;> omega) | fail) only [amR Tryd.prog ro X, amS, seval, reduceCtorEq, ty3, ty4, ty9, ty67, ty153, h0, h5, h1, n1, g1, set_miss, r0, r1, r2, hE1.get]
      refine (Strs.markText_a _ (by first | omega | (simp only [AH.size_new, AH.size_put] <;> omega)) _ (by omega)).mono ?_
      rintro r B2 ⟨rfl, hE2⟩
      have v2 := hE2.size
      try simp only [AH.size_new, AH.size_put] at v2
      simp (maxSteps := 2000000) (disch := first | omega | (simp only [AH.size_new, AH.size_put] <;> omega) | fail) only [amR Tryd.prog ro X, amS, seval, reduceCtorEq, ty3, ty4, ty9, ty67, ty153, h0, h5, h1, n1, g1, set_miss, r0, r1, r2, hE1.get, hE2.get]
      refine ⟨l.length - (i + 1), by omega, by ((repeat' (first | assumption | exact ExtX.refl _ _ | refine ExtX.put ?_ ?_ _ | refine ExtX.new ?_ _ | refine ExtX.trans ?_ (Ext.x (by assumption) _) | refine ExtX.trans ?_ (ExtX.mono (by assumption) ?_))) <;> (first | omega | assumption | (intro b hb2; simp [hb2]; done) | (intro b hb2; exact q3 b (by simp [hb2])) | (simp; done))), i + 1, by omega, rfl, by congr 1 <;> omega, by rw [hnt, hnm]; congr 1; omega, ?_⟩
      rw [mkL_take_succ _ _ _ hil]
      refine hup _ _ _ (by ((repeat' (first | assumption | exact ExtX.refl _ _ | refine ExtX.put ?_ ?_ _ | refine ExtX.new ?_ _ | refine ExtX.trans ?_ (Ext.x (by assumption) _) | refine ExtX.trans ?_ (ExtX.mono (by assumption) ?_))) <;> (first | omega | assumption | (intro b hb2; simp [hb2]; done) | (intro b hb2; exact q3 b (by simp [hb2])) | (simp; done)))) (AH.get_put_self _ _ _) (by simp only [List.length_set]) (fun j hj => by simp (disch := omega) only [set_miss]) (rep_Glance.2 ⟨row_of rfl (by simp only [List.length_set]; omega) (fun j hj => by
        have hj2 : j = 0 ∨ j = 1 ∨ j = 2 := by omega
        rcases hj2 with rfl | rfl | rfl <;> (try simp (disch := first | omega | (simp only [List.length_set] <;> omega)) only [set_miss, set_hit, Nat.add_zero]) <;> (try simp only [r0, r1, r2]) <;> rfl), hFi, mkText_size _ (by have : ((1 : Nat) : Int) = 1 := rfl; omega), mkText_size _ (by have : ((1 : Nat) : Int) = 1 := rfl; omega)⟩)
    · have hil : i = l.length := by simp at h; omega
      subst hil
      simp (maxSteps := 2000000) (disch := first | omega | (simp only [AH.size_new, AH.size_put] <;> omega) | fail) only [amR Tryd.prog ro X, amS, seval, reduceCtorEq, ty3, ty4, ty9, ty67, ty153, h1]
      rw [List.take_length] at h1
      rw [List.drop_length, List.append_nil, List.take_length] at hs'
      rw [List.take_length]
      exact ⟨rfl, hs', hE⟩
theorem hdL_Glance (A : AH) (hro : ro ≤ A.size) (s : Sl) (l : List TGlance) (F : List Nat) (k : Int) (hs : SlR A s (mkL k l) F) (hk : 0 ≤ k ∧ k + nmL l < 281474976710656) :
    ACalls Tryd.prog ro X 112 [s.v, .int .i64 k] A (fun r A' => r = .ret (.int .i64 (k + nmL l)) ∧ Ext A A') := by
  have hw : Dat.w TGlance = 3 := rfl
  have hlen : s.len = l.length := by rw [hs.len, mkL_length]
  have hll : l.length ≤ nmL l := nmL_length l fun x => by show 1 ≤ 1 + (1 + (1)); omega
  refine ACalls.enterQ (rs := [.tmp 4]) Tryd.func112 rfl (by kernel_rfl) rfl ?_
  simp (maxSteps := 2000000) (disch := first | omega | (simp only [AH.size_new, AH.size_put] <;> omega) | fail) only [amR Tryd.prog ro X, amS, seval, reduceCtorEq, ty3, ty4, ty9, ty67, ty153]
  refine Wp.loopC (fun n e A' => Ext A A' ∧ e 0 = s.v ∧ ∃ i : Nat, i ≤ l.length ∧ n = l.length - i ∧ e 5 = .int .i64 i ∧ e 1 = .int .i64 (k + nmL (l.take i))) (l.length - 0) ?_ ?_
  · simp (maxSteps := 2000000) (disch := first | omega | (simp only [AH.size_new, AH.size_put] <;> omega) | fail) only [amV, amH, amQ, amL, amN Tryd.prog, amS, seval, reduceCtorEq, ty3, ty4, ty9, ty67, ty153]
    exact ⟨Ext.refl A, 0, by omega, rfl, rfl, by simp [nmL]⟩
  · rintro n e A' ⟨hE, h0, i, hi, rfl, h5, h1⟩
    have hz := hE.size
    have hs' := hs.ext hE
    simp (maxSteps := 2000000) (disch := first | omega | (simp only [AH.size_new, AH.size_put] <;> omega) | fail) only [amR Tryd.prog ro X, amS, seval, reduceCtorEq, ty3, ty4, ty9, ty67, ty153, h0, h5, hlen]
    refine CondB.split (fun h => ?_) (fun h => ?_)
    · have hil : i < l.length := by simp at h; omega
      have hnt := nmL_take_succ l i hil
      have hnl := nmL_take_le l (i + 1)
      have hnm : Mk.nm l[i] = 1 + (1 + (1)) := rfl
      obtain ⟨n1, b1, m1, i1, cs, Fi, c1, q1, _⟩ := hs'.row (i := i) (by rw [mkL_length]; exact hil)
      rw [aRow_eq, hw] at c1
      rw [mkL_get] at q1
      obtain ⟨c, e', g1, g2, g3⟩ := rowK_inv c1
      obtain ⟨hci, hFi, z1, z2⟩ := rep_Glance.1 q1
      rw [hci] at g3
      have r0 := row_get g3 0 (by omega)
      have r1 := row_get g3 1 (by omega)
      have r2 := row_get g3 2 (by omega)
      simp only [List.getElem?_cons_zero, List.getElem?_cons_succ, Nat.add_zero] at r0 r1 r2
      have r0 : c[s.o + i * 3]? = some (.string (mkText (k + nmL (l.take i)))) := r0
      have r1 : c[s.o + i * 3 + 1]? = some (.bool (decide ((k + nmL (l.take i) + 1) % 3 = 0))) := r1
      have r2 : c[s.o + i * 3 + 2]? = some (.string (mkText (k + nmL (l.take i) + 1 + 1))) := r2
      simp (maxSteps := 2000000) (disch := first | omega | (simp only [AH.size_new, AH.size_put] <;> omega) | fail) only [amR Tryd.prog ro X, amS, seval, reduceCtorEq, ty3, ty4, ty9, ty67, ty153, h0, h5, h1, n1, g1, r0, r1, r2]
      refine Wp.runG [6] (by kernel_rfl) (.inl (by kernel_rfl)) ?_
      simp (maxSteps := 2000000) (disch := first | omega | (simp only [AH.size_new, AH.size_put] <;> omega) | fail) only [amR Tryd.prog ro X, amS, seval, reduceCtorEq, ty3, ty4, ty9, ty67, ty153, h0, h5, h1, n1, g1, r0, r1, r2]
      refine (Strs.markText_a _ (by first | omega | (simp only [AH.size_new, AH.size_put] <;> omega)) _ (by omega)).mono ?_
      rintro r B1 ⟨rfl, hE1⟩
      have v1 := hE1.size
      simp (maxSteps := 2000000) (disch := first | omega | (simp only [AH.size_new, AH.size_put] <;> omega) | fail) only [amR Tryd.prog ro X, amS, seval, reduceCtorEq, ty3, ty4, ty9, ty67, ty153, h0, h5, h1, n1, g1, r0, r1, r2]
      refine ⟨fun b hb => hE1.get b hb, ?_⟩
      try simp (maxSteps := 2000000) (disch := first | omega | (simp only [AH.size_new, AH.size_put] <;> omega) | fail) only [amR Tryd.prog ro X, amS, seval, reduceCtorEq, ty3, ty4, ty9, ty67, ty153, h0, h5, h1, n1, g1, r0, r1, r2, hE1.get]
      refine Wp.runG [6] (by kernel_rfl) (.inl (by kernel_rfl)) ?_
      simp (maxSteps := 2000000) (disch := first | omega | (simp only [AH.size_new, AH.size_put] <;> omega) | fail) only [amR Tryd.prog ro X, amS, seval, reduceCtorEq, ty3, ty4, ty9, ty67, ty153, h0, h5, h1, n1, g1, r0, r1, r2, hE1.get]
      refine (Strs.markText_a _ (by first | omega | (simp only [AH.size_new, AH.size_put] <;> omega)) _ (by omega)).mono ?_
      rintro r B2 ⟨rfl, hE2⟩
      have v2 := hE2.size
      simp (maxSteps := 2000000) (disch := first | omega | (simp only [AH.size_new, AH.size_put] <;> omega) | fail) only [amR Tryd.prog ro X, amS, seval, reduceCtorEq, ty3, ty4, ty9, ty67, ty153, h0, h5, h1, n1, g1, r0, r1, r2, hE1.get]
      refine ⟨fun b hb => hE2.get b hb, ?_⟩
      try simp (maxSteps := 2000000) (disch := first | omega | (simp only [AH.size_new, AH.size_put] <;> omega) | fail) only [amR Tryd.prog ro X, amS, seval, reduceCtorEq, ty3, ty4, ty9, ty67, ty153, h0, h5, h1, n1, g1, r0, r1, r2, hE1.get, hE2.get]
      refine ⟨l.length - (i + 1), by omega, by ((repeat' (first | exact Ext.refl _ | assumption | refine Ext.trans ?_ (Ext.new _ _) | refine Ext.put ?_ ?_ _ | refine Ext.trans ?_ (by assumption))) <;> (first | omega | (simp only [AH.size_new, AH.size_put] <;> omega))), i + 1, by omega, rfl, by congr 1 <;> omega, by rw [hnt, hnm]; congr 1; omega⟩
    · have hil : i = l.length := by simp at h; omega
      subst hil
      simp (maxSteps := 2000000) (disch := first | omega | (simp only [AH.size_new, AH.size_put] <;> omega) | fail) only [amR Tryd.prog ro X, amS, seval, reduceCtorEq, ty3, ty4, ty9, ty67, ty153, h1]
      rw [List.take_length]
      exact ⟨rfl, hE⟩
theorem mkL_Record (A : AH) (hro : ro ≤ A.size) (s : Sl) (l : List TRecord) (F : List Nat) (hs : SlR A s l F) (hF : ∀ b, b ∈ F → ro ≤ b) (hN : F.Nodup) (k : Int) (hk : 0 ≤ k ∧ k + nmL l < 281474976710656) :
    ACalls Tryd.prog ro X 125 [s.v, .int .i64 k] A (fun r A' => r = .ret (.int .i64 (k + nmL l)) ∧ SlR A' s (mkL k l) F ∧ ExtX F A A') := by
  have hw : Dat.w TRecord = 3 := rfl
  have hll : l.length ≤ nmL l := nmL_length l fun x => by show 1 ≤ (nmL x.1) + (nmL x.2.1 + (1)); omega
  refine ACalls.enterQ (rs := [.tmp 4]) Tryd.func125 rfl (by kernel_rfl) rfl ?_
  simp (maxSteps := 2000000) (disch := first | omega | (simp only [AH.size_new, AH.size_put] <;> omega) | fail) only [amR Tryd.prog ro X, amS, seval, reduceCtorEq, ty3, ty9, ty27, ty29, ty53, ty67, ty69, ty109, ty153]
  refine Wp.loopC (fun n e A' => ExtX F A A' ∧ e 0 = s.v ∧ ∃ i : Nat, i ≤ l.length ∧ n = l.length - i ∧ e 5 = .int .i64 i ∧ e 1 = .int .i64 (k + nmL (l.take i)) ∧ SlR A' s (mkL k (l.take i) ++ l.drop i) F) (l.length - 0) ?_ ?_
  · simp (maxSteps := 2000000) (disch := first | omega | (simp only [AH.size_new, AH.size_put] <;> omega) | fail) only [amV, amH, amQ, amL, amN Tryd.prog, amS, seval, reduceCtorEq, ty3, ty9, ty27, ty29, ty53, ty67, ty69, ty109, ty153]
    exact ⟨ExtX.refl F A, 0, by omega, rfl, rfl, by simp [nmL], by simpa [mkL] using hs⟩
  · rintro n e A' ⟨hE, h0, i, hi, rfl, h5, h1, hs'⟩
    have hlen : s.len = l.length := by rw [hs'.len, List.length_append, mkL_length, List.length_take, List.length_drop]; omega
    have hz := hE.size
    simp (maxSteps := 2000000) (disch := first | omega | (simp only [AH.size_new, AH.size_put] <;> omega) | fail) only [amR Tryd.prog ro X, amS, seval, reduceCtorEq, ty3, ty9, ty27, ty29, ty53, ty67, ty69, ty109, ty153, h0, h5, hlen]
    refine CondB.split (fun h => ?_) (fun h => ?_)
    · have hil : i < l.length := by simp at h; omega
      have hnt := nmL_take_succ l i hil
      have hnl := nmL_take_le l (i + 1)
      have hnm : Mk.nm l[i] = (nmL l[i].1) + (nmL l[i].2.1 + (1)) := rfl
      have e0x : Mk.nm l[i].1 = nmL l[i].1 := rfl
      have e1x : Mk.nm l[i].2.1 = nmL l[i].2.1 := rfl
      have e2x : Mk.nm l[i].2.2 = 1 := rfl
      obtain ⟨c, Fi, ci, n1, b1, i1, hb, g1, hc, hrow, hr, hNi, q2, q3, hup⟩ := hs'.step hN (by rw [mkL_length, List.length_take, Nat.min_eq_left hi]) hil
      rw [hw] at g1 hc hrow hup
      have hrb := hF _ hb
      obtain ⟨s1, s2, G1, G2, hci, hFi, h1', h2', z1⟩ := rep_Record.1 hr
      rw [hci] at hrow
      have r0 := row_get hrow 0 (by omega)
      have r1 := row_get hrow 1 (by omega)
      have r2 := row_get hrow 2 (by omega)
      simp only [List.getElem?_cons_zero, List.getElem?_cons_succ, Nat.add_zero] at r0 r1 r2
      subst hFi
      obtain ⟨hN1, hN2, hND⟩ := List.nodup_append.1 hNi
      simp (maxSteps := 2000000) (disch := first | omega | (simp only [AH.size_new, AH.size_put] <;> omega) | fail) only [amR Tryd.prog ro X, amS, seval, reduceCtorEq, ty3, ty9, ty27, ty29, ty53, ty67, ty69, ty109, ty153, h0, h5, h1, n1, g1, set_miss, r0, r1, r2]
      refine (mkL_Ins _ (by first | omega | (simp only [AH.size_new, AH.size_put] <;> omega)) s1 _ G1 (h1'.extx (F := [s.b]) (by ((repeat' (first | assumption | exact ExtX.refl _ _ | refine ExtX.put ?_ ?_ _ | refine ExtX.new ?_ _ | refine ExtX.trans ?_ (Ext.x (by assumption) _) | refine ExtX.trans ?_ (ExtX.mono (by assumption) ?_))) <;> (first | omega | assumption | (intro b hb2; simp [hb2]; done) | (intro b hb2; exact q3 b (by simp [hb2])) | (simp; done)))) (fun b hb2 hm => q2 (by simp only [List.mem_singleton] at hm; subst hm; simp [hb2]))) (fun b hb2 => hF b (q3 b (by simp [hb2]))) hN1 _ (by omega)).mono ?_
      rintro r B1 ⟨rfl, u1, hX1⟩
      have v1 := hX1.size
      try simp only [AH.size_new, AH.size_put] at v1
      have g1x := hX1.get s.b (by first | omega | (simp only [AH.size_new, AH.size_put] <;> omega)) (fun hm => q2 (by simp [hm]))
      simp (maxSteps := 2000000) (disch := first | omega | (simp only [AH.size_new, AH.size_put] <;> omega) | fail) only [amR Tryd.prog ro X, amS, seval, reduceCtorEq, ty3, ty9, ty27, ty29, ty53, ty67, ty69, ty109, ty153, h0, h5, h1, n1, g1, set_miss, r0, r1, r2, g1x]
      refine (mkL_Glance _ (by first | omega | (simp only [AH.size_new, AH.size_put] <;> omega)) s2 _ G2 (h2'.extx (F := s.b :: G1) (by ((repeat' (first | assumption | exact ExtX.refl _ _ | refine ExtX.put ?_ ?_ _ | refine ExtX.new ?_ _ | refine ExtX.trans ?_ (Ext.x (by assumption) _) | refine ExtX.trans ?_ (ExtX.mono (by assumption) ?_))) <;> (first | omega | assumption | (intro b hb2; simp [hb2]; done) | (intro b hb2; exact q3 b (by simp [hb2])) | (simp; done)))) (fun b hb2 hm => by rcases List.mem_cons.1 hm with rfl | hm; exact q2 (by simp [hb2]); exact hND b hm b hb2 rfl)) (fun b hb2 => hF b (q3 b (by simp [hb2]))) hN2 _ (by omega)).mono ?_
      rintro r B2 ⟨rfl, u2, hX2⟩
      have v2 := hX2.size
      try simp only [AH.size_new, AH.size_put] at v2
      have g2x := hX2.get s.b (by first | omega | (simp only [AH.size_new, AH.size_put] <;> omega)) (fun hm => q2 (by simp [hm]))
      simp (maxSteps := 2000000) (disch := first | omega | (simp only [AH.size_new, AH.size_put] <;> omega) | fail) only [amR Tryd.prog ro X, amS, seval, reduceCtorEq, ty3, ty9, ty27, ty29, ty53, ty67, ty69, ty109, ty153, h0, h5, h1, n1, g1, set_miss, r0, r1, r2, g1x, g2x]
      refine (Strs.markText_a _ (by first | omega | (simp only [AH.size_new, AH.size_put] <;> omega)) _ (by omega)).mono ?_
      rintro r B3 ⟨rfl, hE3⟩
      have v3 := hE3.size
      try simp only [AH.size_new, AH.size_put] at v3
      simp (maxSteps := 2000000) (disch := first | omega | (simp only [AH.size_new, AH.size_put] <;> omega) | fail) only [amR Tryd.prog ro X, amS, seval, reduceCtorEq, ty3, ty9, ty27, ty29, ty53, ty67, ty69, ty109, ty153, h0, h5, h1, n1, g1, set_miss, r0, r1, r2, g1x, g2x, hE3.get]
      refine ⟨l.length - (i + 1), by omega, by ((repeat' (first | assumption | exact ExtX.refl _ _ | refine ExtX.put ?_ ?_ _ | refine ExtX.new ?_ _ | refine ExtX.trans ?_ (Ext.x (by assumption) _) | refine ExtX.trans ?_ (ExtX.mono (by assumption) ?_))) <;> (first | omega | assumption | (intro b hb2; simp [hb2]; done) | (intro b hb2; exact q3 b (by simp [hb2])) | (simp; done))), i + 1, by omega, rfl, by congr 1 <;> omega, by rw [hnt, hnm]; congr 1; omega, ?_⟩
      rw [mkL_take_succ _ _ _ hil]
      refine hup _ _ _ (by ((repeat' (first | assumption | exact ExtX.refl _ _ | refine ExtX.put ?_ ?_ _ | refine ExtX.new ?_ _ | refine ExtX.trans ?_ (Ext.x (by assumption) _) | refine ExtX.trans ?_ (ExtX.mono (by assumption) ?_))) <;> (first | omega | assumption | (intro b hb2; simp [hb2]; done) | (intro b hb2; exact q3 b (by simp [hb2])) | (simp; done)))) (AH.get_put_self _ _ _) (by simp only [List.length_set]) (fun j hj => by simp (disch := omega) only [set_miss]) (rep_Record.2 ⟨s1, s2, _, _, row_of rfl (by simp only [List.length_set]; omega) (fun j hj => by
        have hj2 : j = 0 ∨ j = 1 ∨ j = 2 := by omega
        rcases hj2 with rfl | rfl | rfl <;> (try simp (disch := first | omega | (simp only [List.length_set] <;> omega)) only [set_miss, set_hit, Nat.add_zero]) <;> (try simp only [r0, r1, r2]) <;> rfl), rfl, u1.extx (F := s.b :: G2) (by ((repeat' (first | assumption | exact ExtX.refl _ _ | refine ExtX.put ?_ ?_ _ | refine ExtX.new ?_ _ | refine ExtX.trans ?_ (Ext.x (by assumption) _) | refine ExtX.trans ?_ (ExtX.mono (by assumption) ?_))) <;> (first | omega | assumption | (intro b hb2; simp [hb2]; done) | (intro b hb2; exact q3 b (by simp [hb2])) | (simp; done)))) (fun b hb2 hm => by rcases List.mem_cons.1 hm with rfl | hm; exact q2 (by simp [hb2]); exact hND b hb2 b hm rfl), u2.extx (F := [s.b]) (by ((repeat' (first | assumption | exact ExtX.refl _ _ | refine ExtX.put ?_ ?_ _ | refine ExtX.new ?_ _ | refine ExtX.trans ?_ (Ext.x (by assumption) _) | refine ExtX.trans ?_ (ExtX.mono (by assumption) ?_))) <;> (first | omega | assumption | (intro b hb2; simp [hb2]; done) | (intro b hb2; exact q3 b (by simp [hb2])) | (simp; done)))) (fun b hb2 hm => q2 (by simp only [List.mem_singleton] at hm; subst hm; simp [hb2])), mkText_size _ (by have : ((1 : Nat) : Int) = 1 := rfl; omega)⟩)
    · have hil : i = l.length := by simp at h; omega
      subst hil
      simp (maxSteps := 2000000) (disch := first | omega | (simp only [AH.size_new, AH.size_put] <;> omega) | fail) only [amR Tryd.prog ro X, amS, seval, reduceCtorEq, ty3, ty9, ty27, ty29, ty53, ty67, ty69, ty109, ty153, h1]
      rw [List.take_length] at h1
      rw [List.drop_length, List.append_nil, List.take_length] at hs'
      rw [List.take_length]
      exact ⟨rfl, hs', hE⟩
theorem hdL_Record (A : AH) (hro : ro ≤ A.size) (s : Sl) (l : List TRecord) (F : List Nat) (k : Int) (hs : SlR A s (mkL k l) F) (hk : 0 ≤ k ∧ k + nmL l < 281474976710656) :
    ACalls Tryd.prog ro X 163 [s.v, .int .i64 k] A (fun r A' => r = .ret (.int .i64 (k + nmL l)) ∧ Ext A A') := by
  have hw : Dat.w TRecord = 3 := rfl
  have hlen : s.len = l.length := by rw [hs.len, mkL_length]
  have hll : l.length ≤ nmL l := nmL_length l fun x => by show 1 ≤ (nmL x.1) + (nmL x.2.1 + (1)); omega
  refine ACalls.enterQ (rs := [.tmp 4]) Tryd.func163 rfl (by kernel_rfl) rfl ?_
  simp (maxSteps := 2000000) (disch := first | omega | (simp only [AH.size_new, AH.size_put] <;> omega) | fail) only [amR Tryd.prog ro X, amS, seval, reduceCtorEq, ty3, ty9, ty27, ty29, ty53, ty67, ty69, ty109, ty153]
  refine Wp.loopC (fun n e A' => Ext A A' ∧ e 0 = s.v ∧ ∃ i : Nat, i ≤ l.length ∧ n = l.length - i ∧ e 5 = .int .i64 i ∧ e 1 = .int .i64 (k + nmL (l.take i))) (l.length - 0) ?_ ?_
  · simp (maxSteps := 2000000) (disch := first | omega | (simp only [AH.size_new, AH.size_put] <;> omega) | fail) only [amV, amH, amQ, amL, amN Tryd.prog, amS, seval, reduceCtorEq, ty3, ty9, ty27, ty29, ty53, ty67, ty69, ty109, ty153]
    exact ⟨Ext.refl A, 0, by omega, rfl, rfl, by simp [nmL]⟩
  · rintro n e A' ⟨hE, h0, i, hi, rfl, h5, h1⟩
    have hz := hE.size
    have hs' := hs.ext hE
    simp (maxSteps := 2000000) (disch := first | omega | (simp only [AH.size_new, AH.size_put] <;> omega) | fail) only [amR Tryd.prog ro X, amS, seval, reduceCtorEq, ty3, ty9, ty27, ty29, ty53, ty67, ty69, ty109, ty153, h0, h5, hlen]
    refine CondB.split (fun h => ?_) (fun h => ?_)
    · have hil : i < l.length := by simp at h; omega
      have hnt := nmL_take_succ l i hil
      have hnl := nmL_take_le l (i + 1)
      have hnm : Mk.nm l[i] = (nmL l[i].1) + (nmL l[i].2.1 + (1)) := rfl
      obtain ⟨n1, b1, m1, i1, cs, Fi, c1, q1, _⟩ := hs'.row (i := i) (by rw [mkL_length]; exact hil)
      rw [aRow_eq, hw] at c1
      rw [mkL_get] at q1
      obtain ⟨c, e', g1, g2, g3⟩ := rowK_inv c1
      obtain ⟨s1, s2, G1, G2, hci, hFi, h1', h2', z1⟩ := rep_Record.1 q1
      rw [hci] at g3
      have r0 := row_get g3 0 (by omega)
      have r1 := row_get g3 1 (by omega)
      have r2 := row_get g3 2 (by omega)
      simp only [List.getElem?_cons_zero, List.getElem?_cons_succ, Nat.add_zero] at r0 r1 r2
      have h1' : SlR A' s1 (mkL (k + nmL (l.take i)) l[i].1) G1 := h1'
      have h2' : SlR A' s2 (mkL (k + nmL (l.take i) + (nmL l[i].1 : Nat)) l[i].2.1) G2 := h2'
      have r2 : c[s.o + i * 3 + 2]? = some (.string (mkText (k + nmL (l.take i) + (nmL l[i].1 : Nat) + (nmL l[i].2.1 : Nat)))) := r2
      simp (maxSteps := 2000000) (disch := first | omega | (simp only [AH.size_new, AH.size_put] <;> omega) | fail) only [amR Tryd.prog ro X, amS, seval, reduceCtorEq, ty3, ty9, ty27, ty29, ty53, ty67, ty69, ty109, ty153, h0, h5, h1, n1, g1, r0, r1, r2]
      refine (hdL_Ins _ (by first | omega | (simp only [AH.size_new, AH.size_put] <;> omega)) s1 _ _ _ (h1'.ext (by ((repeat' (first | exact Ext.refl _ | assumption | refine Ext.trans ?_ (Ext.new _ _) | refine Ext.put ?_ ?_ _ | refine Ext.trans ?_ (by assumption))) <;> (first | omega | (simp only [AH.size_new, AH.size_put] <;> omega))))) (by omega)).mono ?_
      rintro r B1 ⟨rfl, hE1⟩
      have v1 := hE1.size
      have w1 : ¬ (k + nmL (l.take i) + (nmL l[i].1 : Nat) < 0) := by omega
      simp (maxSteps := 2000000) (disch := first | omega | (simp only [AH.size_new, AH.size_put] <;> omega) | fail) only [amR Tryd.prog ro X, amS, seval, reduceCtorEq, ty3, ty9, ty27, ty29, ty53, ty67, ty69, ty109, ty153, h0, h5, h1, n1, g1, r0, r1, r2, hE1.get, w1]
      refine (hdL_Glance _ (by first | omega | (simp only [AH.size_new, AH.size_put] <;> omega)) s2 _ _ _ (h2'.ext (by ((repeat' (first | exact Ext.refl _ | assumption | refine Ext.trans ?_ (Ext.new _ _) | refine Ext.put ?_ ?_ _ | refine Ext.trans ?_ (by assumption))) <;> (first | omega | (simp only [AH.size_new, AH.size_put] <;> omega))))) (by omega)).mono ?_
      rintro r B2 ⟨rfl, hE2⟩
      have v2 := hE2.size
      have w2 : ¬ (k + nmL (l.take i) + (nmL l[i].1 : Nat) + (nmL l[i].2.1 : Nat) < 0) := by omega
      simp (maxSteps := 2000000) (disch := first | omega | (simp only [AH.size_new, AH.size_put] <;> omega) | fail) only [amR Tryd.prog ro X, amS, seval, reduceCtorEq, ty3, ty9, ty27, ty29, ty53, ty67, ty69, ty109, ty153, h0, h5, h1, n1, g1, r0, r1, r2, hE1.get, w1, hE2.get, w2]
      refine Wp.runG [6] (by kernel_rfl) (.inl (by kernel_rfl)) ?_
      simp (maxSteps := 2000000) (disch := first | omega | (simp only [AH.size_new, AH.size_put] <;> omega) | fail) only [amR Tryd.prog ro X, amS, seval, reduceCtorEq, ty3, ty9, ty27, ty29, ty53, ty67, ty69, ty109, ty153, h0, h5, h1, n1, g1, r0, r1, r2, hE1.get, w1, hE2.get, w2]
      refine (Strs.markText_a _ (by first | omega | (simp only [AH.size_new, AH.size_put] <;> omega)) _ (by omega)).mono ?_
      rintro r B3 ⟨rfl, hE3⟩
      have v3 := hE3.size
      simp (maxSteps := 2000000) (disch := first | omega | (simp only [AH.size_new, AH.size_put] <;> omega) | fail) only [amR Tryd.prog ro X, amS, seval, reduceCtorEq, ty3, ty9, ty27, ty29, ty53, ty67, ty69, ty109, ty153, h0, h5, h1, n1, g1, r0, r1, r2, hE1.get, w1, hE2.get, w2]
      refine ⟨fun b hb => hE3.get b hb, ?_⟩
      try simp (maxSteps := 2000000) (disch := first | omega | (simp only [AH.size_new, AH.size_put] <;> omega) | fail) only [amR Tryd.prog ro X, amS, seval, reduceCtorEq, ty3, ty9, ty27, ty29, ty53, ty67, ty69, ty109, ty153, h0, h5, h1, n1, g1, r0, r1, r2, hE1.get, w1, hE2.get, w2, hE3.get]
      refine ⟨l.length - (i + 1), by omega, by ((repeat' (first | exact Ext.refl _ | assumption | refine Ext.trans ?_ (Ext.new _ _) | refine Ext.put ?_ ?_ _ | refine Ext.trans ?_ (by assumption))) <;> (first | omega | (simp only [AH.size_new, AH.size_put] <;> omega))), i + 1, by omega, rfl, by congr 1 <;> omega, by rw [hnt, hnm]; congr 1; omega⟩
    · have hil : i = l.length := by simp at h; omega
      subst hil
      simp (maxSteps := 2000000) (disch := first | omega | (simp only [AH.size_new, AH.size_put] <;> omega) | fail) only [amR Tryd.prog ro X, amS, seval, reduceCtorEq, ty3, ty9, ty27, ty29, ty53, ty67, ty69, ty109, ty153, h1]
      rw [List.take_length]
      exact ⟨rfl, hE⟩
theorem mk_Record (A : AH) (hro : ro ≤ A.size) (s1 : Sl) (l1 : List TIns) (G1 : List Nat) (s2 : Sl) (l2 : List TGlance) (G2 : List Nat) (a1 : ByteArray) (k : Int)
    (h1 : SlR A s1 l1 G1) (hF1 : ∀ b, b ∈ G1 → ro ≤ b) (h2 : SlR A s2 l2 G2) (hF2 : ∀ b, b ∈ G2 → ro ≤ b) (hN : (G1 ++ (G2)).Nodup) (hk : 0 ≤ k ∧ k + (nmL l1 : Nat) + (nmL l2 : Nat) < 281474976710656) :
    ACalls Tryd.prog ro X 45 [.agg #[s1.v, s2.v, .string a1], .int .i64 k] A (fun r A' => r = .ret (.int .i64 (k + (nmL l1 : Nat) + (nmL l2 : Nat))) ∧ SlR A' s1 (mkL (k) l1) G1 ∧ SlR A' s2 (mkL (k + (nmL l1 : Nat)) l2) G2 ∧ ExtX (G1 ++ (G2)) A A') := by
  have hN1 := hN
  have D1 : ∀ b, b ∈ G1 → b ∉ G2 := fun b hb hm => (List.nodup_append.1 hN1).2.2 b hb b hm rfl
  have hN2 := (List.nodup_append.1 hN1).2.1
  refine ACalls.enterQ (rs := [.tmp 4]) Tryd.func45 rfl (by kernel_rfl) rfl ?_
  simp (maxSteps := 2000000) (disch := first | omega | (simp only [AH.size_new, AH.size_put] <;> omega) | fail) only [amR Tryd.prog ro X, amS, seval, reduceCtorEq, ty9, ty27, ty29, ty67, ty69, ty153]
  refine (mk_Program _ (by first | omega | (simp only [AH.size_new, AH.size_put] <;> omega)) s1 l1 G1 _ (h1.ext (by ((repeat' (first | exact Ext.refl _ | assumption | refine Ext.trans ?_ (Ext.new _ _) | refine Ext.put ?_ ?_ _ | refine Ext.trans ?_ (by assumption))) <;> (first | omega | (simp only [AH.size_new, AH.size_put] <;> omega))))) hF1 (hN1.sublist (List.sublist_append_left _ _)) (by omega)).mono ?_
  rintro r B1 ⟨rfl, u1, hX1⟩
  have v1 := hX1.size
  try simp only [AH.size_new, AH.size_put] at v1
  have x2k1 := (h2.ext (by ((repeat' (first | exact Ext.refl _ | assumption | refine Ext.trans ?_ (Ext.new _ _) | refine Ext.put ?_ ?_ _ | refine Ext.trans ?_ (by assumption))) <;> (first | omega | (simp only [AH.size_new, AH.size_put] <;> omega))))).extx hX1 (fun b hb hm => D1 b hm (by first | exact hb | simp [hb]))
  have hG1 : B1.get A.size = _ := hX1.get A.size (by first | omega | (simp only [AH.size_new, AH.size_put] <;> omega)) (fun hm => by have hb := h1.bound _ hm; omega)
  simp (maxSteps := 2000000) (disch := first | omega | (simp only [AH.size_new, AH.size_put] <;> omega) | fail) only [amR Tryd.prog ro X, amS, seval, reduceCtorEq, ty9, ty27, ty29, ty67, ty69, ty153, hG1]
  refine (mkL_Glance _ (by first | omega | (simp only [AH.size_new, AH.size_put] <;> omega)) s2 _ G2 x2k1 hF2 hN2 _ (by omega)).mono ?_
  rintro r B2 ⟨rfl, u2, hX2⟩
  have v2 := hX2.size
  try simp only [AH.size_new, AH.size_put] at v2
  have x1k2 := (u1).extx hX2 (fun b hb hm => D1 b hb (by first | exact hm | simp [hm]))
  have hG2 : B2.get A.size = _ := hX2.get A.size (by first | omega | (simp only [AH.size_new, AH.size_put] <;> omega)) (fun hm => by have hb := h2.bound _ hm; omega)
  simp (maxSteps := 2000000) (disch := first | omega | (simp only [AH.size_new, AH.size_put] <;> omega) | fail) only [amR Tryd.prog ro X, amS, seval, reduceCtorEq, ty9, ty27, ty29, ty67, ty69, ty153, hG1, hG2]
  exact ⟨x1k2, u2, (by ((repeat' (first | exact ExtX.refl _ _ | refine ExtX.put ?_ ?_ _ | refine ExtX.new ?_ _ | refine ExtX.trans ?_ (ExtX.mono (by assumption) ?_))) <;> (intro b hb; first | exact hb | (simp at hb ⊢; first | (simp [hb]; done) | (rcases hb with hb | hb <;> simp [hb])))))⟩
theorem hd_Record (A : AH) (hro : ro ≤ A.size) (s1 : Sl) (l1 : List TIns) (G1 : List Nat) (s2 : Sl) (l2 : List TGlance) (G2 : List Nat) (a1 : ByteArray) (k : Int)
    (h1 : SlR A s1 (mkL (k) l1) G1) (h2 : SlR A s2 (mkL (k + (nmL l1 : Nat)) l2) G2) (hk : 0 ≤ k ∧ k + (nmL l1 : Nat) + (nmL l2 : Nat) < 281474976710656) :
    ACalls Tryd.prog ro X 46 [.agg #[s1.v, s2.v, .string a1], .int .i64 k] A (fun r A' => r = .ret (.int .i64 (k + (nmL l1 : Nat) + (nmL l2 : Nat))) ∧ Ext A A') := by
  refine ACalls.enterQ (rs := [.tmp 4]) Tryd.func46 rfl (by kernel_rfl) rfl ?_
  simp (maxSteps := 2000000) (disch := first | omega | (simp only [AH.size_new, AH.size_put] <;> omega) | fail) only [amR Tryd.prog ro X, amS, seval, reduceCtorEq, ty3, ty9, ty27, ty29, ty67, ty69, ty153]
  refine (hd_Program _ (by first | omega | (simp only [AH.size_new, AH.size_put] <;> omega)) s1 l1 G1 _ (h1.ext (by ((repeat' (first | exact Ext.refl _ | assumption | refine Ext.trans ?_ (Ext.new _ _) | refine Ext.put ?_ ?_ _ | refine Ext.trans ?_ (by assumption))) <;> (first | omega | (simp only [AH.size_new, AH.size_put] <;> omega))))) (by omega)).mono ?_
  rintro r B1 ⟨rfl, hE1⟩
  have v1 := hE1.size
  try simp only [AH.size_new, AH.size_put] at v1
  have w1 : ¬ (k + (nmL l1 : Nat) < 0) := by omega
  simp (maxSteps := 2000000) (disch := first | omega | (simp only [AH.size_new, AH.size_put] <;> omega) | fail) only [amR Tryd.prog ro X, amS, seval, reduceCtorEq, ty3, ty9, ty27, ty29, ty67, ty69, ty153, hE1.get, w1]
  refine (hdL_Glance _ (by first | omega | (simp only [AH.size_new, AH.size_put] <;> omega)) s2 _ _ _ (h2.ext (by ((repeat' (first | exact Ext.refl _ | assumption | refine Ext.trans ?_ (Ext.new _ _) | refine Ext.put ?_ ?_ _ | refine Ext.trans ?_ (by assumption))) <;> (first | omega | (simp only [AH.size_new, AH.size_put] <;> omega))))) (by omega)).mono ?_
  rintro r B2 ⟨rfl, hE2⟩
  have v2 := hE2.size
  try simp only [AH.size_new, AH.size_put] at v2
  have w2 : ¬ (k + (nmL l1 : Nat) + (nmL l2 : Nat) < 0) := by omega
  simp (maxSteps := 2000000) (disch := first | omega | (simp only [AH.size_new, AH.size_put] <;> omega) | fail) only [amR Tryd.prog ro X, amS, seval, reduceCtorEq, ty3, ty9, ty27, ty29, ty67, ty69, ty153, hE1.get, w1, hE2.get, w2]
  ((repeat' (first | exact Ext.refl _ | assumption | refine Ext.trans ?_ (Ext.new _ _) | refine Ext.put ?_ ?_ _ | refine Ext.trans ?_ (by assumption))) <;> (first | omega | (simp only [AH.size_new, AH.size_put] <;> omega)))
theorem mk_Store (A : AH) (hro : ro ≤ A.size) (a1 : Int) (s1 : Sl) (l1 : List ByteArray) (G1 : List Nat) (s2 : Sl) (l2 : List TRecord) (G2 : List Nat) (k : Int)
    (h1 : SlR A s1 l1 G1) (hF1 : ∀ b, b ∈ G1 → ro ≤ b) (h2 : SlR A s2 l2 G2) (hF2 : ∀ b, b ∈ G2 → ro ≤ b) (hN : (G1 ++ (G2)).Nodup) (hk : 0 ≤ k ∧ k + (nmL l1 : Nat) + (nmL l2 : Nat) < 281474976710656) :
    ACalls Tryd.prog ro X 54 [.agg #[.int .i64 a1, s1.v, s2.v], .int .i64 k] A (fun r A' => r = .ret (.int .i64 (k + (nmL l1 : Nat) + (nmL l2 : Nat))) ∧ SlR A' s1 (mkL (k) l1) G1 ∧ SlR A' s2 (mkL (k + (nmL l1 : Nat)) l2) G2 ∧ ExtX (G1 ++ (G2)) A A') := by
  have hN1 := hN
  have D1 : ∀ b, b ∈ G1 → b ∉ G2 := fun b hb hm => (List.nodup_append.1 hN1).2.2 b hb b hm rfl
  have hN2 := (List.nodup_append.1 hN1).2.1
  refine ACalls.enterQ (rs := [.tmp 4]) Tryd.func54 rfl (by kernel_rfl) rfl ?_
  simp (maxSteps := 2000000) (disch := first | omega | (simp only [AH.size_new, AH.size_put] <;> omega) | fail) only [amR Tryd.prog ro X, amS, seval, reduceCtorEq, ty3, ty9, ty47, ty53, ty55, ty69]
  refine (mkL_str _ (by first | omega | (simp only [AH.size_new, AH.size_put] <;> omega)) s1 _ G1 (h1.ext (by ((repeat' (first | exact Ext.refl _ | assumption | refine Ext.trans ?_ (Ext.new _ _) | refine Ext.put ?_ ?_ _ | refine Ext.trans ?_ (by assumption))) <;> (first | omega | (simp only [AH.size_new, AH.size_put] <;> omega))))) hF1 (List.nodup_append.1 hN1).1 _ (by omega)).mono ?_
  rintro r B1 ⟨rfl, u1, hX1⟩
  have v1 := hX1.size
  try simp only [AH.size_new, AH.size_put] at v1
  have x2k1 := (h2.ext (by ((repeat' (first | exact Ext.refl _ | assumption | refine Ext.trans ?_ (Ext.new _ _) | refine Ext.put ?_ ?_ _ | refine Ext.trans ?_ (by assumption))) <;> (first | omega | (simp only [AH.size_new, AH.size_put] <;> omega))))).extx hX1 (fun b hb hm => D1 b hm (by first | exact hb | simp [hb]))
  have hG1 : B1.get A.size = _ := hX1.get A.size (by first | omega | (simp only [AH.size_new, AH.size_put] <;> omega)) (fun hm => by have hb := h1.bound _ hm; omega)
  simp (maxSteps := 2000000) (disch := first | omega | (simp only [AH.size_new, AH.size_put] <;> omega) | fail) only [amR Tryd.prog ro X, amS, seval, reduceCtorEq, ty3, ty9, ty47, ty53, ty55, ty69, hG1]
  refine (mkL_Record _ (by first | omega | (simp only [AH.size_new, AH.size_put] <;> omega)) s2 _ G2 x2k1 hF2 hN2 _ (by omega)).mono ?_
  rintro r B2 ⟨rfl, u2, hX2⟩
  have v2 := hX2.size
  try simp only [AH.size_new, AH.size_put] at v2
  have x1k2 := (u1).extx hX2 (fun b hb hm => D1 b hb (by first | exact hm | simp [hm]))
  have hG2 : B2.get A.size = _ := hX2.get A.size (by first | omega | (simp only [AH.size_new, AH.size_put] <;> omega)) (fun hm => by have hb := h2.bound _ hm; omega)
  simp (maxSteps := 2000000) (disch := first | omega | (simp only [AH.size_new, AH.size_put] <;> omega) | fail) only [amR Tryd.prog ro X, amS, seval, reduceCtorEq, ty3, ty9, ty47, ty53, ty55, ty69, hG1, hG2]
  exact ⟨x1k2, u2, (by ((repeat' (first | exact ExtX.refl _ _ | refine ExtX.put ?_ ?_ _ | refine ExtX.new ?_ _ | refine ExtX.trans ?_ (ExtX.mono (by assumption) ?_))) <;> (intro b hb; first | exact hb | (simp at hb ⊢; first | (simp [hb]; done) | (rcases hb with hb | hb <;> simp [hb])))))⟩
theorem hd_Store (A : AH) (hro : ro ≤ A.size) (a1 : Int) (s1 : Sl) (l1 : List ByteArray) (G1 : List Nat) (s2 : Sl) (l2 : List TRecord) (G2 : List Nat) (k : Int)
    (h1 : SlR A s1 (mkL (k) l1) G1) (h2 : SlR A s2 (mkL (k + (nmL l1 : Nat)) l2) G2) (hk : 0 ≤ k ∧ k + (nmL l1 : Nat) + (nmL l2 : Nat) < 281474976710656) :
    ACalls Tryd.prog ro X 126 [.agg #[.int .i64 a1, s1.v, s2.v], .int .i64 k] A (fun r A' => r = .ret (.int .i64 (k + (nmL l1 : Nat) + (nmL l2 : Nat))) ∧ Ext A A') := by
  refine ACalls.enterQ (rs := [.tmp 4]) Tryd.func126 rfl (by kernel_rfl) rfl ?_
  simp (maxSteps := 2000000) (disch := first | omega | (simp only [AH.size_new, AH.size_put] <;> omega) | fail) only [amR Tryd.prog ro X, amS, seval, reduceCtorEq, ty3, ty9, ty47, ty53, ty55, ty69]
  refine (hdL_str _ (by first | omega | (simp only [AH.size_new, AH.size_put] <;> omega)) s1 _ _ _ (h1.ext (by ((repeat' (first | exact Ext.refl _ | assumption | refine Ext.trans ?_ (Ext.new _ _) | refine Ext.put ?_ ?_ _ | refine Ext.trans ?_ (by assumption))) <;> (first | omega | (simp only [AH.size_new, AH.size_put] <;> omega))))) (by omega)).mono ?_
  rintro r B1 ⟨rfl, hE1⟩
  have v1 := hE1.size
  try simp only [AH.size_new, AH.size_put] at v1
  have w1 : ¬ (k + (nmL l1 : Nat) < 0) := by omega
  simp (maxSteps := 2000000) (disch := first | omega | (simp only [AH.size_new, AH.size_put] <;> omega) | fail) only [amR Tryd.prog ro X, amS, seval, reduceCtorEq, ty3, ty9, ty47, ty53, ty55, ty69, hE1.get, w1]
  refine (hdL_Record _ (by first | omega | (simp only [AH.size_new, AH.size_put] <;> omega)) s2 _ _ _ (h2.ext (by ((repeat' (first | exact Ext.refl _ | assumption | refine Ext.trans ?_ (Ext.new _ _) | refine Ext.put ?_ ?_ _ | refine Ext.trans ?_ (by assumption))) <;> (first | omega | (simp only [AH.size_new, AH.size_put] <;> omega))))) (by omega)).mono ?_
  rintro r B2 ⟨rfl, hE2⟩
  have v2 := hE2.size
  try simp only [AH.size_new, AH.size_put] at v2
  have w2 : ¬ (k + (nmL l1 : Nat) + (nmL l2 : Nat) < 0) := by omega
  simp (maxSteps := 2000000) (disch := first | omega | (simp only [AH.size_new, AH.size_put] <;> omega) | fail) only [amR Tryd.prog ro X, amS, seval, reduceCtorEq, ty3, ty9, ty47, ty53, ty55, ty69, hE1.get, w1, hE2.get, w2]
  ((repeat' (first | exact Ext.refl _ | assumption | refine Ext.trans ?_ (Ext.new _ _) | refine Ext.put ?_ ?_ _ | refine Ext.trans ?_ (by assumption))) <;> (first | omega | (simp only [AH.size_new, AH.size_put] <;> omega)))
theorem mk_Kept (A : AH) (hro : ro ≤ A.size) (a1 : Int) (a2 : Int) (s1 : Sl) (l1 : List ByteArray) (G1 : List Nat) (s2 : Sl) (l2 : List TRecord) (G2 : List Nat) (a3 : ByteArray) (a4 : ByteArray) (k : Int)
    (h1 : SlR A s1 l1 G1) (hF1 : ∀ b, b ∈ G1 → ro ≤ b) (h2 : SlR A s2 l2 G2) (hF2 : ∀ b, b ∈ G2 → ro ≤ b) (hN : (G1 ++ (G2)).Nodup) (hk : 0 ≤ k ∧ k + (nmL l1 : Nat) + (nmL l2 : Nat) < 281474976710656) :
    ACalls Tryd.prog ro X 55 [.agg #[.int .i64 a1, .int .i64 a2, s1.v, s2.v, .string a3, .string a4], .int .i64 k] A (fun r A' => r = .ret (.int .i64 (k + (nmL l1 : Nat) + (nmL l2 : Nat))) ∧ SlR A' s1 (mkL (k) l1) G1 ∧ SlR A' s2 (mkL (k + (nmL l1 : Nat)) l2) G2 ∧ ExtX (G1 ++ (G2)) A A') := by
  have hN1 := hN
  have D1 : ∀ b, b ∈ G1 → b ∉ G2 := fun b hb hm => (List.nodup_append.1 hN1).2.2 b hb b hm rfl
  have hN2 := (List.nodup_append.1 hN1).2.1
  refine ACalls.enterQ (rs := [.tmp 4]) Tryd.func55 rfl (by kernel_rfl) rfl ?_
  simp (maxSteps := 2000000) (disch := first | omega | (simp only [AH.size_new, AH.size_put] <;> omega) | fail) only [amR Tryd.prog ro X, amS, seval, reduceCtorEq, ty3, ty9, ty47, ty53, ty55, ty88]
  refine (mk_Store _ (by first | omega | (simp only [AH.size_new, AH.size_put] <;> omega)) _ s1 l1 G1 s2 l2 G2 _ (h1.ext (by ((repeat' (first | exact Ext.refl _ | assumption | refine Ext.trans ?_ (Ext.new _ _) | refine Ext.put ?_ ?_ _ | refine Ext.trans ?_ (by assumption))) <;> (first | omega | (simp only [AH.size_new, AH.size_put] <;> omega))))) hF1 (h2.ext (by ((repeat' (first | exact Ext.refl _ | assumption | refine Ext.trans ?_ (Ext.new _ _) | refine Ext.put ?_ ?_ _ | refine Ext.trans ?_ (by assumption))) <;> (first | omega | (simp only [AH.size_new, AH.size_put] <;> omega))))) hF2 hN1 (by omega)).mono ?_
  rintro r B1 ⟨rfl, u1, u2, hX1⟩
  have v1 := hX1.size
  try simp only [AH.size_new, AH.size_put] at v1
  have hG1 : B1.get A.size = _ := hX1.get A.size (by first | omega | (simp only [AH.size_new, AH.size_put] <;> omega)) (fun hm => by rcases List.mem_append.1 hm with hm | hm; have hb := h1.bound _ hm; omega; have hb := h2.bound _ hm; omega)
  simp (maxSteps := 2000000) (disch := first | omega | (simp only [AH.size_new, AH.size_put] <;> omega) | fail) only [amR Tryd.prog ro X, amS, seval, reduceCtorEq, ty3, ty9, ty47, ty53, ty55, ty88, hG1]
  exact ⟨u1, u2, (by ((repeat' (first | exact ExtX.refl _ _ | refine ExtX.put ?_ ?_ _ | refine ExtX.new ?_ _ | refine ExtX.trans ?_ (ExtX.mono (by assumption) ?_))) <;> (intro b hb; first | exact hb | (simp at hb ⊢; first | (simp [hb]; done) | (rcases hb with hb | hb <;> simp [hb])))))⟩
theorem hd_Kept (A : AH) (hro : ro ≤ A.size) (a1 : Int) (a2 : Int) (s1 : Sl) (l1 : List ByteArray) (G1 : List Nat) (s2 : Sl) (l2 : List TRecord) (G2 : List Nat) (a3 : ByteArray) (a4 : ByteArray) (k : Int)
    (h1 : SlR A s1 (mkL (k) l1) G1) (h2 : SlR A s2 (mkL (k + (nmL l1 : Nat)) l2) G2) (hk : 0 ≤ k ∧ k + (nmL l1 : Nat) + (nmL l2 : Nat) < 281474976710656) :
    ACalls Tryd.prog ro X 56 [.agg #[.int .i64 a1, .int .i64 a2, s1.v, s2.v, .string a3, .string a4], .int .i64 k] A (fun r A' => r = .ret (.int .i64 (k + (nmL l1 : Nat) + (nmL l2 : Nat))) ∧ Ext A A') := by
  refine ACalls.enterQ (rs := [.tmp 4]) Tryd.func56 rfl (by kernel_rfl) rfl ?_
  simp (maxSteps := 2000000) (disch := first | omega | (simp only [AH.size_new, AH.size_put] <;> omega) | fail) only [amR Tryd.prog ro X, amS, seval, reduceCtorEq, ty3, ty9, ty47, ty53, ty55, ty88]
  refine (hd_Store _ (by first | omega | (simp only [AH.size_new, AH.size_put] <;> omega)) _ s1 l1 G1 s2 l2 G2 _ (h1.ext (by ((repeat' (first | exact Ext.refl _ | assumption | refine Ext.trans ?_ (Ext.new _ _) | refine Ext.put ?_ ?_ _ | refine Ext.trans ?_ (by assumption))) <;> (first | omega | (simp only [AH.size_new, AH.size_put] <;> omega))))) (h2.ext (by ((repeat' (first | exact Ext.refl _ | assumption | refine Ext.trans ?_ (Ext.new _ _) | refine Ext.put ?_ ?_ _ | refine Ext.trans ?_ (by assumption))) <;> (first | omega | (simp only [AH.size_new, AH.size_put] <;> omega))))) (by omega)).mono ?_
  rintro r B1 ⟨rfl, hE1⟩
  have v1 := hE1.size
  try simp only [AH.size_new, AH.size_put] at v1
  have w1 : ¬ (k + (nmL l1 : Nat) + (nmL l2 : Nat) < 0) := by omega
  simp (maxSteps := 2000000) (disch := first | omega | (simp only [AH.size_new, AH.size_put] <;> omega) | fail) only [amR Tryd.prog ro X, amS, seval, reduceCtorEq, ty3, ty9, ty47, ty53, ty55, ty88, hE1.get, w1]
  ((repeat' (first | exact Ext.refl _ | assumption | refine Ext.trans ?_ (Ext.new _ _) | refine Ext.put ?_ ?_ _ | refine Ext.trans ?_ (by assumption))) <;> (first | omega | (simp only [AH.size_new, AH.size_put] <;> omega)))
end Go.Proofs.YtcdnlghlbljopaaDoor.Amu.Law
