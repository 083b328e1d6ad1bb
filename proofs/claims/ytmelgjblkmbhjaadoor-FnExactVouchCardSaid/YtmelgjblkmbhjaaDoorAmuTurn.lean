/- The machine of the implementation: a look is answered; a whole turn. -/
import Derived.Test.YtmelgjblkmbhjaaDoorAmRun
import Derived.Test.YtmelgjblkmbhjaaDoorAmuMach
namespace Go.Proofs.YtmelgjblkmbhjaaDoor.Amu.Turn
open Go Go.AM Go.Proofs
set_option linter.unusedVariables false
set_option linter.unusedSimpArgs false
theorem ty3 : tKind Tryd.prog 3 = some (.int .i64) ∧ tSize Tryd.prog 3 = some 1 ∧ tAgg Tryd.prog 3 = some false ∧ tZero Tryd.prog 3 = some (.int .i64 0) := ⟨by kernel_rfl, by kernel_rfl, by kernel_rfl, by kernel_rfl⟩
theorem ty4 : tKind Tryd.prog 4 = some (.bool) ∧ tSize Tryd.prog 4 = some 1 ∧ tAgg Tryd.prog 4 = some false ∧ tZero Tryd.prog 4 = some (.bool false) := ⟨by kernel_rfl, by kernel_rfl, by kernel_rfl, by kernel_rfl⟩
theorem ty9 : tKind Tryd.prog 9 = some (.str) ∧ tSize Tryd.prog 9 = some 1 ∧ tAgg Tryd.prog 9 = some false ∧ tZero Tryd.prog 9 = some (.string ByteArray.empty) := ⟨by kernel_rfl, by kernel_rfl, by kernel_rfl, by kernel_rfl⟩
theorem ty27 : tKind Tryd.prog 27 = some (.slice) ∧ tSize Tryd.prog 27 = some 1 ∧ tAgg Tryd.prog 27 = some false ∧ tZero Tryd.prog 27 = some (.slice none 0 0) ∧ tElem Tryd.prog 27 = some 106 ∧ tElemSize Tryd.prog 27 = some 3 ∧ tBytes Tryd.prog 27 = false := ⟨by kernel_rfl, by kernel_rfl, by kernel_rfl, by kernel_rfl, by kernel_rfl, by kernel_rfl, by kernel_rfl⟩
theorem ty29 : tKind Tryd.prog 29 = some (.struct) ∧ tSize Tryd.prog 29 = some 1 ∧ tAgg Tryd.prog 29 = some true ∧ tZero Tryd.prog 29 = some (.agg #[.slice none 0 0]) ∧ tField Tryd.prog 29 0 = some (0, 27) ∧ tPlaces Tryd.prog 29 = some [(0, 1)] := ⟨by kernel_rfl, by kernel_rfl, by kernel_rfl, by kernel_rfl, by kernel_rfl, by kernel_rfl⟩
theorem ty36 : tKind Tryd.prog 36 = some (.struct) ∧ tSize Tryd.prog 36 = some 6 ∧ tAgg Tryd.prog 36 = some true ∧ tZero Tryd.prog 36 = some (.agg #[.bool false, .int .i64 0, .string ByteArray.empty, .bool false, .string ByteArray.empty, .int .i64 0]) ∧ tField Tryd.prog 36 0 = some (0, 4) ∧ tField Tryd.prog 36 1 = some (1, 3) ∧ tField Tryd.prog 36 2 = some (2, 9) ∧ tField Tryd.prog 36 3 = some (3, 4) ∧ tField Tryd.prog 36 4 = some (4, 9) ∧ tField Tryd.prog 36 5 = some (5, 3) ∧ tPlaces Tryd.prog 36 = some [(0, 1), (1, 1), (2, 1), (3, 1), (4, 1), (5, 1)] := ⟨by kernel_rfl, by kernel_rfl, by kernel_rfl, by kernel_rfl, by kernel_rfl, by kernel_rfl, by kernel_rfl, by kernel_rfl, by kernel_rfl, by kernel_rfl, by kernel_rfl⟩
theorem ty38 : tKind Tryd.prog 38 = some (.slice) ∧ tSize Tryd.prog 38 = some 1 ∧ tAgg Tryd.prog 38 = some false ∧ tZero Tryd.prog 38 = some (.slice none 0 0) ∧ tElem Tryd.prog 38 = some 120 ∧ tElemSize Tryd.prog 38 = some 3 ∧ tBytes Tryd.prog 38 = false := ⟨by kernel_rfl, by kernel_rfl, by kernel_rfl, by kernel_rfl, by kernel_rfl, by kernel_rfl, by kernel_rfl⟩
theorem ty43 : tKind Tryd.prog 43 = some (.slice) ∧ tSize Tryd.prog 43 = some 1 ∧ tAgg Tryd.prog 43 = some false ∧ tZero Tryd.prog 43 = some (.slice none 0 0) ∧ tElem Tryd.prog 43 = some 9 ∧ tElemSize Tryd.prog 43 = some 1 ∧ tBytes Tryd.prog 43 = false := ⟨by kernel_rfl, by kernel_rfl, by kernel_rfl, by kernel_rfl, by kernel_rfl, by kernel_rfl, by kernel_rfl⟩
theorem ty106 : tKind Tryd.prog 106 = some (.struct) ∧ tSize Tryd.prog 106 = some 3 ∧ tAgg Tryd.prog 106 = some true ∧ tZero Tryd.prog 106 = some (.agg #[.int .i64 0, .string ByteArray.empty, .int .i64 0]) ∧ tField Tryd.prog 106 0 = some (0, 3) ∧ tField Tryd.prog 106 1 = some (1, 9) ∧ tField Tryd.prog 106 2 = some (2, 3) ∧ tPlaces Tryd.prog 106 = some [(0, 1), (1, 1), (2, 1)] := ⟨by kernel_rfl, by kernel_rfl, by kernel_rfl, by kernel_rfl, by kernel_rfl, by kernel_rfl, by kernel_rfl, by kernel_rfl⟩
theorem ty120 : tKind Tryd.prog 120 = some (.struct) ∧ tSize Tryd.prog 120 = some 3 ∧ tAgg Tryd.prog 120 = some true ∧ tZero Tryd.prog 120 = some (.agg #[.bool false, .int .i64 0, .string ByteArray.empty]) ∧ tField Tryd.prog 120 0 = some (0, 4) ∧ tField Tryd.prog 120 1 = some (1, 3) ∧ tField Tryd.prog 120 2 = some (2, 9) ∧ tPlaces Tryd.prog 120 = some [(0, 1), (1, 1), (2, 1)] := ⟨by kernel_rfl, by kernel_rfl, by kernel_rfl, by kernel_rfl, by kernel_rfl, by kernel_rfl, by kernel_rfl, by kernel_rfl⟩
theorem ty127 : tKind Tryd.prog 127 = some (.struct) ∧ tSize Tryd.prog 127 = some 7 ∧ tAgg Tryd.prog 127 = some true ∧ tZero Tryd.prog 127 = some (.agg #[.slice none 0 0, .slice none 0 0, .int .i64 0, .int .i64 0, .int .i64 0, .bool false, .string ByteArray.empty]) ∧ tField Tryd.prog 127 0 = some (0, 27) ∧ tField Tryd.prog 127 1 = some (1, 43) ∧ tField Tryd.prog 127 2 = some (2, 3) ∧ tField Tryd.prog 127 3 = some (3, 3) ∧ tField Tryd.prog 127 4 = some (4, 3) ∧ tField Tryd.prog 127 5 = some (5, 4) ∧ tField Tryd.prog 127 6 = some (6, 9) ∧ tPlaces Tryd.prog 127 = some [(0, 1), (1, 1), (2, 1), (3, 1), (4, 1), (5, 1), (6, 1)] := ⟨by kernel_rfl, by kernel_rfl, by kernel_rfl, by kernel_rfl, by kernel_rfl, by kernel_rfl, by kernel_rfl, by kernel_rfl, by kernel_rfl, by kernel_rfl, by kernel_rfl, by kernel_rfl⟩

variable {ro : Nat} {X : FuncId → List Value → AH → ARes → AH → Prop}
set_option maxRecDepth 10000
open Mach (mc tc)
theorem stk_ne {lo : Nat} {A : AH} {s : Sl} {l : List ByteArray} (h : Stk lo A s l) {b : Nat} {c : List Value} {w : Nat} (hw : w ≠ 1) (g : A.get b = .cells c w) : s.nl = true ∨ b ≠ s.b := by
  rcases h with ⟨rfl, _⟩ | ⟨_, _, _, _, _, c', hg, _⟩
  · exact .inl rfl
  · exact .inr (by rintro rfl; rw [g] at hg; injection hg with _ h; exact hw h)
set_option maxHeartbeats 4000000 in
theorem told_a (A0 A : AH) (hro : ro ≤ A0.size) (hE : Ext A0 A) (hT : Tab 0 A0) (hP : Pow 1 A0) (p : Nat) (hp0 : A0.size ≤ p) (hp : p < A.size) (cs : Sl) (prog : List TIns) (F : List Nat) (hc : SlR A0 cs prog F) (hok : ProgOk prog) (m : Mach) (hm : MachOk m) (hl : m.st.length < 50) (s : Sl) (hs : Stk A0.size A s m.st) (hsp : s.nl = true ∨ s.b ≠ p) (ask : Bool) (nm : ByteArray) (g : A.get p = .cells (mc cs s m.pc m.steps m.looks ask nm) 7) (r : TReply) (hr : r.2.2.size ≤ 2000) :
    ACalls Tryd.prog ro X 70 [.pointer (some ⟨p, 0, none⟩), .agg #[.bool r.1, .int .i64 r.2.1, .string r.2.2]] A (fun R A' => R = .ret (tc (turnOf (toldR prog ask nm m r))) ∧ Ext A0 A' ∧ A.size ≤ A'.size ∧ (∀ b, b < A.size → b ≠ p → (s.nl = true ∨ b ≠ s.b) → A'.get b = A.get b) ∧ ∀ a n m', toldR prog ask nm m r = .look a n m' → ∃ s', A'.get p = .cells (mc cs s' m'.pc m'.steps m'.looks a n) 7 ∧ Stk A0.size A' s' m'.st ∧ (s'.nl = true ∨ s'.b ≠ p)) := by
  obtain ⟨r1, r2, r3⟩ := r
  simp only at hr
  have zE := hE.size
  have hFb : ∀ b ∈ F, b < A0.size := fun b hb => hc.bound b hb
  refine ACalls.enterQ (rs := [.cell 4 36]) Tryd.func70 rfl (by kernel_rfl) rfl ?_
  have g' := g
  unfold mc at g
  simp (maxSteps := 2000000) (disch := first | omega | (simp only [AH.size_new, AH.size_put] <;> omega) | fail) only [amR Tryd.prog ro X, amS, seval, reduceCtorEq, ty3, ty4, ty9, ty27, ty36, ty43, ty120, ty127, g]
  generalize hH : AH.new (AH.new A _) _ = H
  have zH : H.size = A.size + 2 := by rw [← hH]; rfl
  have hEH : Ext A H := by rw [← hH]; exact (by ((repeat' (first | exact Ext.refl _ | assumption | refine Ext.trans ?_ (Ext.new _ _) | refine Ext.put ?_ ?_ _ | refine Ext.trans ?_ (by assumption))) <;> (first | omega | (simp only [AH.size_new, AH.size_put] <;> omega))))
  have gp := (hEH.get p hp).trans g
  have gp' := (hEH.get p hp).trans g'
  have gb : H.get A.size = .cells [.bool r1, .int .i64 r2, .string r3] 3 := by rw [← hH, AH.get_new_other (by simp only [AH.size_new]; omega)]; exact AH.get_new_self _ _
  have gt : H.get (A.size + 1) = .cells [.bool false, .int .i64 0, .string ByteArray.empty, .bool false, .string ByteArray.empty, .int .i64 0] 6 := by rw [← hH]; exact AH.get_new_self _ _
  clear hH
  have hsH := hs.ext hEH
  have hEA := hE.trans hEH
  -- a text is put, the run goes on
  have push : ∀ v : ByteArray, v.size ≤ 2000 → ∃ s1 H1, aAppend Tryd.prog ro (H.new (.cells [.string v] 1)) 43 s.v (Sl.v ⟨false, H.size, 0, 1, 1⟩) = some (s1.v, H1) ∧ Stk A0.size H1 s1 (m.st ++ [v]) ∧ H.size + 1 ≤ H1.size ∧ (∀ b, b < H.size → (s.nl = true ∨ b ≠ s.b) → H1.get b = H.get b) ∧ s1.b ≠ p := by
    intro v hv
    obtain ⟨s1, H1, h1, h2, h3, h4, h5, h6⟩ := (hsH.ext (Ext.new H (.cells [.string v] 1))).push (P := Tryd.prog) hro (by simp only [AH.size_new]; omega) (t := 43) (by simp only [ty43]) (x := Sl.v ⟨false, H.size, 0, 1, 1⟩) (v := v) (by simp [Sl.v, aSource, aRow_eq, AH.get_new_self, rowK]) (by unfold BIG; omega) (by omega)
    refine ⟨s1, H1, h1, h2, h3, fun b hb hn => (h4 b (by simp only [AH.size_new]; omega) hn).trans (AH.get_new_other (by omega)), ?_⟩
    rcases h6 with ⟨h6, h7⟩ | h6
    · rw [h6]; rcases hsp with h | h; rw [h7] at h; cases h; exact h
    · simp only [AH.size_new] at h6; omega
  have hpF : p ∉ F := fun h => by have := hFb _ h; omega
  have hsb : s.nl = false → A0.size ≤ s.b := fun h => by
    rcases hs with ⟨rfl, _⟩ | ⟨_, h, _⟩
    · cases h
    · exact h
  have hA0 : ∀ {H1 H2 : AH}, H.size + 1 ≤ H1.size → (∀ b, b < H.size → (s.nl = true ∨ b ≠ s.b) → H1.get b = H.get b) → H2.size = H1.size → (∀ b, b ≠ p → H2.get b = H1.get b) → Ext A0 H2 := fun z1 k1 z2 k2 => ⟨by omega, fun b hb => by
    rw [k2 b (by omega), k1 b (by omega) (by cases hn : s.nl; exact .inr (by have := hsb hn; omega); exact .inl rfl)]
    exact hEA.get b hb⟩
  cases ask with
  | false =>
    have htold : toldR prog false nm m (r1, r2, r3) = runR prog ⟨m.pc, m.st ++ [flagS r1], m.steps, m.looks⟩ := rfl
    simp (maxSteps := 2000000) (disch := first | omega | (simp only [AH.size_new, AH.size_put] <;> omega) | fail) only [amR Tryd.prog ro X, amS, seval, reduceCtorEq, ty3, ty4, ty9, ty27, ty36, ty43, ty120, ty127, gp, gb]
    refine (Mach.digit_a _ _).mono ?_
    rintro r H' ⟨rfl, rfl⟩
    obtain ⟨s1, H1, w1, w2, w3, w4, w5⟩ := push (flagS r1) (by rw [flagS_size]; omega)
    have gp1 := (w4 p (by omega) (by rcases hsp with h | h; exact .inl h; exact .inr (Ne.symm h))).trans gp
    simp (maxSteps := 2000000) (disch := first | omega | (simp only [AH.size_new, AH.size_put] <;> omega) | fail) only [amR Tryd.prog ro X, amS, seval, reduceCtorEq, ty3, ty4, ty9, ty27, ty36, ty43, ty120, ty127, gp, gb, w1, gp1]
    generalize hH2 : AH.put H1 p _ = H2
    have k0 : H2.get p = .cells (mc cs s1 m.pc m.steps m.looks false nm) 7 := by rw [← hH2]; exact AH.get_put_self _ _ _
    have k1 : H2.size = H1.size := by rw [← hH2]; rfl
    have k2 : ∀ b, b ≠ p → H2.get b = H1.get b := fun b hb => by rw [← hH2]; exact AH.get_put_other hb
    clear hH2
    have hE2 := hA0 w3 w4 k1 k2
    have hm' := push_ok hm hl (s := flagS r1) (by rw [flagS_size]; omega)
    refine (Mach.run_a (lo := A0.size) _ (by first | omega | (simp only [AH.size_new, AH.size_put] <;> omega)) (hT.ext hE2) (hP.ext hE2) p (by omega) (by omega) (by omega) hro cs prog F (hc.ext hE2) hpF hok _ hm' s1 (w2.frame (by omega) (fun _ => k2 _ w5)) (.inr w5) false nm k0).mono ?_
    rintro R H3 ⟨rfl, hX3, hlook⟩
    have z3 := hX3.size
    have gt3 : H3.get (A.size + 1) = _ := (hX3.get _ (by omega) (by simp; omega)).trans ((k2 _ (by omega)).trans ((w4 _ (by omega) (stk_ne hsH (by decide) gt)).trans gt))
    simp (maxSteps := 2000000) (disch := first | omega | (simp only [AH.size_new, AH.size_put] <;> omega) | fail) only [amR Tryd.prog ro X, amS, seval, reduceCtorEq, ty3, ty4, ty9, ty27, ty36, ty43, ty120, ty127, tc, gt3]
    have hne : A.size + 1 ≠ p := by omega
    refine ⟨by rw [htold], ⟨(by first | omega | (simp only [AH.size_new, AH.size_put] <;> omega)), fun b hb => ?_⟩, (by first | omega | (simp only [AH.size_new, AH.size_put] <;> omega)), fun b hb hbp hbs => ?_, fun a n m' h => ?_⟩
    · rw [AH.get_put_other (by omega)]
      exact (hX3.get b (by omega) (by simp; omega)).trans (hE2.get b hb)
    · rw [AH.get_put_other (by omega)]
      exact (hX3.get b (by omega) (by simpa using hbp)).trans ((k2 b hbp).trans ((w4 b (by omega) hbs).trans (hEH.get b hb)))
    · rw [htold] at h
      obtain ⟨s', q1, q2, q3, q4⟩ := hlook a n m' h
      exact ⟨s', q1, q2.frame (by simp only [AH.size_put]; omega) (fun hn => AH.get_put_other (by rcases stk_ne q2 (by decide) (show H3.get (A.size + 1) = .cells _ 6 from gt3) with h | h; rw [h] at hn; cases hn; exact Ne.symm h)), q3⟩
  | true =>
    cases r1 with
    | false =>
      have htold : toldR prog true nm m (false, r2, r3) = .fin 4 nm m.steps := by rfl
      simp (maxSteps := 2000000) (disch := first | omega | (simp only [AH.size_new, AH.size_put] <;> omega) | fail) only [amR Tryd.prog ro X, amS, seval, reduceCtorEq, ty3, ty4, ty9, ty27, ty36, ty43, ty120, ty127, gp, gb]
      refine (Mach.end_a _ (by first | omega | (simp only [AH.size_new, AH.size_put] <;> omega)) p (by omega) cs s m.pc m.steps m.looks true nm gp' 4 nm).mono ?_
      rintro R H3 ⟨rfl, hE3⟩
      have z3 := hE3.size
      have gt3 := (hE3.get (A.size + 1) (by omega)).trans gt
      simp (maxSteps := 2000000) (disch := first | omega | (simp only [AH.size_new, AH.size_put] <;> omega) | fail) only [amR Tryd.prog ro X, amS, seval, reduceCtorEq, ty3, ty4, ty9, ty27, ty36, ty43, ty120, ty127, tc, gt3]
      refine ⟨by rw [htold], ⟨(by first | omega | (simp only [AH.size_new, AH.size_put] <;> omega)), fun b hb => ?_⟩, (by first | omega | (simp only [AH.size_new, AH.size_put] <;> omega)), fun b hb hbp hbs => ?_, fun a n m' h => by rw [htold] at h; cases h⟩
      · rw [AH.get_put_other (by omega)]
        exact (hE3.get b (by omega)).trans (hEA.get b hb)
      · rw [AH.get_put_other (by omega)]
        exact (hE3.get b (by omega)).trans (hEH.get b hb)
    | true =>
    by_cases j2 : r2 = 0
    · subst j2
      have htold : toldR prog true nm m (true, 0, r3) = runR prog ⟨m.pc, m.st ++ [r3], m.steps, m.looks⟩ := rfl
      simp (maxSteps := 2000000) (disch := first | omega | (simp only [AH.size_new, AH.size_put] <;> omega) | fail) only [amR Tryd.prog ro X, amS, seval, reduceCtorEq, ty3, ty4, ty9, ty27, ty36, ty43, ty120, ty127, gp, gb]
      obtain ⟨s1, H1, w1, w2, w3, w4, w5⟩ := push (r3) hr
      have gp1 := (w4 p (by omega) (by rcases hsp with h | h; exact .inl h; exact .inr (Ne.symm h))).trans gp
      simp (maxSteps := 2000000) (disch := first | omega | (simp only [AH.size_new, AH.size_put] <;> omega) | fail) only [amR Tryd.prog ro X, amS, seval, reduceCtorEq, ty3, ty4, ty9, ty27, ty36, ty43, ty120, ty127, gp, gb, w1, gp1]
      generalize hH2 : AH.put H1 p _ = H2
      have k0 : H2.get p = .cells (mc cs s1 m.pc m.steps m.looks true nm) 7 := by rw [← hH2]; exact AH.get_put_self _ _ _
      have k1 : H2.size = H1.size := by rw [← hH2]; rfl
      have k2 : ∀ b, b ≠ p → H2.get b = H1.get b := fun b hb => by rw [← hH2]; exact AH.get_put_other hb
      clear hH2
      have hE2 := hA0 w3 w4 k1 k2
      have hm' := push_ok hm hl (s := r3) hr
      refine (Mach.run_a (lo := A0.size) _ (by first | omega | (simp only [AH.size_new, AH.size_put] <;> omega)) (hT.ext hE2) (hP.ext hE2) p (by omega) (by omega) (by omega) hro cs prog F (hc.ext hE2) hpF hok _ hm' s1 (w2.frame (by omega) (fun _ => k2 _ w5)) (.inr w5) true nm k0).mono ?_
      rintro R H3 ⟨rfl, hX3, hlook⟩
      have z3 := hX3.size
      have gt3 : H3.get (A.size + 1) = _ := (hX3.get _ (by omega) (by simp; omega)).trans ((k2 _ (by omega)).trans ((w4 _ (by omega) (stk_ne hsH (by decide) gt)).trans gt))
      simp (maxSteps := 2000000) (disch := first | omega | (simp only [AH.size_new, AH.size_put] <;> omega) | fail) only [amR Tryd.prog ro X, amS, seval, reduceCtorEq, ty3, ty4, ty9, ty27, ty36, ty43, ty120, ty127, tc, gt3]
      have hne : A.size + 1 ≠ p := by omega
      refine ⟨by rw [htold], ⟨(by first | omega | (simp only [AH.size_new, AH.size_put] <;> omega)), fun b hb => ?_⟩, (by first | omega | (simp only [AH.size_new, AH.size_put] <;> omega)), fun b hb hbp hbs => ?_, fun a n m' h => ?_⟩
      · rw [AH.get_put_other (by omega)]
        exact (hX3.get b (by omega) (by simp; omega)).trans (hE2.get b hb)
      · rw [AH.get_put_other (by omega)]
        exact (hX3.get b (by omega) (by simpa using hbp)).trans ((k2 b hbp).trans ((w4 b (by omega) hbs).trans (hEH.get b hb)))
      · rw [htold] at h
        obtain ⟨s', q1, q2, q3, q4⟩ := hlook a n m' h
        exact ⟨s', q1, q2.frame (by simp only [AH.size_put]; omega) (fun hn => AH.get_put_other (by rcases stk_ne q2 (by decide) (show H3.get (A.size + 1) = .cells _ 6 from gt3) with h | h; rw [h] at hn; cases hn; exact Ne.symm h)), q3⟩
    · have htold : toldR prog true nm m (true, r2, r3) = .fin 5 nm m.steps := by unfold toldR; simp only [Bool.true_eq_false, if_false]; rw [if_pos j2]
      simp (maxSteps := 2000000) (disch := first | omega | (simp only [AH.size_new, AH.size_put] <;> omega) | fail) only [amR Tryd.prog ro X, amS, seval, reduceCtorEq, ty3, ty4, ty9, ty27, ty36, ty43, ty120, ty127, gp, gb, j2]
      refine (Mach.end_a _ (by first | omega | (simp only [AH.size_new, AH.size_put] <;> omega)) p (by omega) cs s m.pc m.steps m.looks true nm gp' 5 nm).mono ?_
      rintro R H3 ⟨rfl, hE3⟩
      have z3 := hE3.size
      have gt3 := (hE3.get (A.size + 1) (by omega)).trans gt
      simp (maxSteps := 2000000) (disch := first | omega | (simp only [AH.size_new, AH.size_put] <;> omega) | fail) only [amR Tryd.prog ro X, amS, seval, reduceCtorEq, ty3, ty4, ty9, ty27, ty36, ty43, ty120, ty127, tc, gt3]
      refine ⟨by rw [htold], ⟨(by first | omega | (simp only [AH.size_new, AH.size_put] <;> omega)), fun b hb => ?_⟩, (by first | omega | (simp only [AH.size_new, AH.size_put] <;> omega)), fun b hb hbp hbs => ?_, fun a n m' h => by rw [htold] at h; cases h⟩
      · rw [AH.get_put_other (by omega)]
        exact (hE3.get b (by omega)).trans (hEA.get b hb)
      · rw [AH.get_put_other (by omega)]
        exact (hE3.get b (by omega)).trans (hEH.get b hb)
theorem row_rep {A : AH} {s : Sl} {l : List TReply} {F : List Nat} (h : SlR A s l F) {i : Nat} (hi : i < l.length) : s.nl = false ∧ s.b < A.size ∧ i < s.len ∧
    rowK (s.o + i * 3) 3 (A.get s.b) = some [.bool l[i].1, .int .i64 l[i].2.1, .string l[i].2.2] ∧ l[i].2.2.size < 4611686018427387904 := by
  obtain ⟨n1, b1, m1, i1, cs, Fi, c1, q1, _⟩ := h.row hi
  rw [aRow_eq] at c1
  obtain ⟨rfl, _, z⟩ := rep_Reply.1 q1
  exact ⟨n1, b1, i1, c1, big_lt z⟩
def tcl (t : TTurn) : List Value := [.bool t.1, .int .i64 t.2.1, .string t.2.2.1, .bool t.2.2.2.1, .string t.2.2.2.2.1, .int .i64 t.2.2.2.2.2]
theorem playR_fin {p : TProgram} {t : Tick} (h : ∀ a n m, t ≠ .look a n m) (l : List TReply) : playR p t l = t := by
  cases t with
  | look a n m => exact absurd rfl (h a n m)
  | fin => cases l <;> rfl
  | go => cases l <;> rfl
set_option maxHeartbeats 4000000 in
theorem next_a (A : AH) (hro : ro ≤ A.size) (hT : Tab 0 A) (hP : Pow 1 A) (cs : Sl) (prog : TProgram) (F : List Nat) (hc : SlR A cs prog F) (us : Sl) (l : List TReply) (G : List Nat) (hu : SlR A us l G) (hlb : l.length < 4294967296) :
    ACalls Tryd.prog ro X 20 [.agg #[cs.v], us.v] A (fun r A' => r = .ret (tc (nextR prog l)) ∧ Ext A A') := by
  have hulen := hu.len
  refine ACalls.enterQ (rs := [.cell 4 36]) Tryd.func20 rfl (by kernel_rfl) rfl ?_
  simp (maxSteps := 2000000) (disch := first | omega | (simp only [AH.size_new, AH.size_put] <;> omega) | fail) only [amR Tryd.prog ro X, amS, seval, reduceCtorEq, ty3, ty4, ty9, ty27, ty29, ty36, ty38, ty43, ty106, ty120, ty127]
  generalize hA1 : AH.new (AH.new A _) _ = A1
  have z1 : A1.size = A.size + 2 := by rw [← hA1]; rfl
  have hE1 : Ext A A1 := by rw [← hA1]; exact (by ((repeat' (first | exact Ext.refl _ | assumption | refine Ext.trans ?_ (Ext.new _ _) | refine Ext.put ?_ ?_ _ | refine Ext.trans ?_ (by assumption))) <;> (first | omega | (simp only [AH.size_new, AH.size_put] <;> omega))))
  have gb1 : A1.get A.size = .cells [cs.v] 1 := by rw [← hA1, AH.get_new_other (by simp only [AH.size_new]; omega)]; exact AH.get_new_self _ _
  have gt1 : A1.get (A.size + 1) = .cells [.bool false, .int .i64 0, .string ByteArray.empty, .bool false, .string ByteArray.empty, .int .i64 0] 6 := by rw [← hA1]; exact AH.get_new_self _ _
  clear hA1
  refine (Prog.implValid_a _ (by first | omega | (simp only [AH.size_new, AH.size_put] <;> omega)) (hT.ext hE1) cs prog F (hc.ext hE1)).mono ?_
  rintro r A2 ⟨rfl, hE2⟩
  have z2 := hE2.size
  by_cases hv : ProgOk prog
  case neg =>
    have hbad : nextBad prog l := .inl hv
    simp (maxSteps := 2000000) (disch := first | omega | (simp only [AH.size_new, AH.size_put] <;> omega) | fail) only [amR Tryd.prog ro X, amS, seval, reduceCtorEq, ty3, ty4, ty9, ty27, ty29, ty36, ty38, ty43, ty106, ty120, ty127, hv, hulen]
    refine Wp.loopC (fun n e H => Ext A1 H ∧ e 4 = .pointer (some ⟨A.size + 1, 0, none⟩) ∧ e 5 = .bool true ∧ e 20 = us.v ∧ e 21 = .int .i64 l.length ∧ ∃ i : Nat, i ≤ l.length ∧ n = l.length - i ∧ e 22 = .int .i64 i) (l.length - 0) ?_ ?_
    · simp (maxSteps := 2000000) (disch := first | omega | (simp only [AH.size_new, AH.size_put] <;> omega) | fail) only [amV, amH, amQ, amL, amN Tryd.prog, amS, seval, reduceCtorEq, ty3, ty4, ty9, ty27, ty29, ty36, ty38, ty43, ty106, ty120, ty127]
      exact ⟨hE2, 0, by omega, rfl, rfl⟩
    · rintro n e H ⟨hE, e4, e5, e20, e21, i, hi, rfl, e22⟩
      have zH := hE.size
      simp (maxSteps := 2000000) (disch := first | omega | (simp only [AH.size_new, AH.size_put] <;> omega) | fail) only [amR Tryd.prog ro X, amS, seval, reduceCtorEq, ty3, ty4, ty9, ty27, ty29, ty36, ty38, ty43, ty106, ty120, ty127, e21, e22]
      refine CondB.split (fun h => ?_) (fun h => ?_)
      · have hil : i < l.length := by simp at h; omega
        obtain ⟨n1, b1, i1, r1, _⟩ := row_rep (hu.ext (hE1.trans hE)) hil
        simp (maxSteps := 2000000) (disch := first | omega | (simp only [AH.size_new, AH.size_put] <;> omega) | fail) only [amR Tryd.prog ro X, amS, seval, reduceCtorEq, ty3, ty4, ty9, ty27, ty29, ty36, ty38, ty43, ty106, ty120, ty127, e4, e5, e20, e21, e22, hulen, n1, b1, i1, r1]
        exact ⟨l.length - (i + 1), by omega, (by ((repeat' (first | exact Ext.refl _ | assumption | refine Ext.trans ?_ (Ext.new _ _) | refine Ext.put ?_ ?_ _ | refine Ext.trans ?_ (by assumption))) <;> (first | omega | (simp only [AH.size_new, AH.size_put] <;> omega)))), i + 1, by omega, rfl, by simp⟩
      · have gt := (hE.get _ (by omega)).trans gt1
        simp (maxSteps := 2000000) (disch := first | omega | (simp only [AH.size_new, AH.size_put] <;> omega) | fail) only [amR Tryd.prog ro X, amS, seval, reduceCtorEq, ty3, ty4, ty9, ty27, ty29, ty36, ty38, ty43, ty106, ty120, ty127, e4, e5, tc, gt]
        exact ⟨by rw [nextR, if_pos hbad]; rfl, Ext.put (hE1.trans hE) (by omega) _⟩
  by_cases hl2 : (200 : Int) < l.length
  · skip
    have hbad : nextBad prog l := .inr (.inl (by omega))
    simp (maxSteps := 2000000) (disch := first | omega | (simp only [AH.size_new, AH.size_put] <;> omega) | fail) only [amR Tryd.prog ro X, amS, seval, reduceCtorEq, ty3, ty4, ty9, ty27, ty29, ty36, ty38, ty43, ty106, ty120, ty127, hv, hl2, hulen]
    refine Wp.loopC (fun n e H => Ext A1 H ∧ e 4 = .pointer (some ⟨A.size + 1, 0, none⟩) ∧ e 5 = .bool true ∧ e 20 = us.v ∧ e 21 = .int .i64 l.length ∧ ∃ i : Nat, i ≤ l.length ∧ n = l.length - i ∧ e 22 = .int .i64 i) (l.length - 0) ?_ ?_
    · simp (maxSteps := 2000000) (disch := first | omega | (simp only [AH.size_new, AH.size_put] <;> omega) | fail) only [amV, amH, amQ, amL, amN Tryd.prog, amS, seval, reduceCtorEq, ty3, ty4, ty9, ty27, ty29, ty36, ty38, ty43, ty106, ty120, ty127]
      exact ⟨hE2, 0, by omega, rfl, rfl⟩
    · rintro n e H ⟨hE, e4, e5, e20, e21, i, hi, rfl, e22⟩
      have zH := hE.size
      simp (maxSteps := 2000000) (disch := first | omega | (simp only [AH.size_new, AH.size_put] <;> omega) | fail) only [amR Tryd.prog ro X, amS, seval, reduceCtorEq, ty3, ty4, ty9, ty27, ty29, ty36, ty38, ty43, ty106, ty120, ty127, e21, e22]
      refine CondB.split (fun h => ?_) (fun h => ?_)
      · have hil : i < l.length := by simp at h; omega
        obtain ⟨n1, b1, i1, r1, _⟩ := row_rep (hu.ext (hE1.trans hE)) hil
        simp (maxSteps := 2000000) (disch := first | omega | (simp only [AH.size_new, AH.size_put] <;> omega) | fail) only [amR Tryd.prog ro X, amS, seval, reduceCtorEq, ty3, ty4, ty9, ty27, ty29, ty36, ty38, ty43, ty106, ty120, ty127, e4, e5, e20, e21, e22, hulen, n1, b1, i1, r1]
        exact ⟨l.length - (i + 1), by omega, (by ((repeat' (first | exact Ext.refl _ | assumption | refine Ext.trans ?_ (Ext.new _ _) | refine Ext.put ?_ ?_ _ | refine Ext.trans ?_ (by assumption))) <;> (first | omega | (simp only [AH.size_new, AH.size_put] <;> omega)))), i + 1, by omega, rfl, by simp⟩
      · have gt := (hE.get _ (by omega)).trans gt1
        simp (maxSteps := 2000000) (disch := first | omega | (simp only [AH.size_new, AH.size_put] <;> omega) | fail) only [amR Tryd.prog ro X, amS, seval, reduceCtorEq, ty3, ty4, ty9, ty27, ty29, ty36, ty38, ty43, ty106, ty120, ty127, e4, e5, tc, gt]
        exact ⟨by rw [nextR, if_pos hbad]; rfl, Ext.put (hE1.trans hE) (by omega) _⟩
  simp (maxSteps := 2000000) (disch := first | omega | (simp only [AH.size_new, AH.size_put] <;> omega) | fail) only [amR Tryd.prog ro X, amS, seval, reduceCtorEq, ty3, ty4, ty9, ty27, ty29, ty36, ty38, ty43, ty106, ty120, ty127, hv, hl2, hulen]
  refine Wp.loopC (fun n e H => Ext A1 H ∧ e 1 = us.v ∧ e 2 = .pointer (some ⟨A.size, 0, none⟩) ∧ e 4 = .pointer (some ⟨A.size + 1, 0, none⟩) ∧ e 20 = us.v ∧ e 21 = .int .i64 l.length ∧ ∃ i : Nat, i ≤ l.length ∧ n = l.length - i ∧ e 22 = .int .i64 i ∧ ∃ b, e 5 = .bool b ∧ (b = false ↔ ∀ r ∈ l.take i, ¬ replyBad r)) (l.length - 0) ?_ ?_
  · simp (maxSteps := 2000000) (disch := first | omega | (simp only [AH.size_new, AH.size_put] <;> omega) | fail) only [amV, amH, amQ, amL, amN Tryd.prog, amS, seval, reduceCtorEq, ty3, ty4, ty9, ty27, ty29, ty36, ty38, ty43, ty106, ty120, ty127]
    exact ⟨hE2, 0, by omega, rfl, rfl, false, rfl, by simp⟩
  · rintro n e H ⟨hE, e1, e2, e4, e20, e21, i, hi, rfl, e22, b, e5, hb⟩
    have zH := hE.size
    simp (maxSteps := 2000000) (disch := first | omega | (simp only [AH.size_new, AH.size_put] <;> omega) | fail) only [amR Tryd.prog ro X, amS, seval, reduceCtorEq, ty3, ty4, ty9, ty27, ty29, ty36, ty38, ty43, ty106, ty120, ty127, e21, e22]
    refine CondB.split (fun h => ?_) (fun h => ?_)
    · have hil : i < l.length := by simp at h; omega
      obtain ⟨n1, b1, i1, r1, _⟩ := row_rep (hu.ext (hE1.trans hE)) hil
      have hts := all_take_succ (p := fun r => ¬ replyBad r) hil
      cases b with
      | true =>
        simp (maxSteps := 2000000) (disch := first | omega | (simp only [AH.size_new, AH.size_put] <;> omega) | fail) only [amR Tryd.prog ro X, amS, seval, reduceCtorEq, ty3, ty4, ty9, ty27, ty29, ty36, ty38, ty43, ty106, ty120, ty127, e1, e2, e4, e5, e20, e21, e22, hulen, n1, b1, i1, r1]
        exact ⟨l.length - (i + 1), by omega, (by ((repeat' (first | exact Ext.refl _ | assumption | refine Ext.trans ?_ (Ext.new _ _) | refine Ext.put ?_ ?_ _ | refine Ext.trans ?_ (by assumption))) <;> (first | omega | (simp only [AH.size_new, AH.size_put] <;> omega)))), i + 1, by omega, rfl, by simp, true, rfl, ⟨fun h => (by cases h), fun h => (hb.2 (hts.1 h).1)⟩⟩
      | false =>
        have hb' := hb.1 rfl
        by_cases j1 : (2000 : Int) < l[i].2.2.size
        · simp (maxSteps := 2000000) (disch := first | omega | (simp only [AH.size_new, AH.size_put] <;> omega) | fail) only [amR Tryd.prog ro X, amS, seval, reduceCtorEq, ty3, ty4, ty9, ty27, ty29, ty36, ty38, ty43, ty106, ty120, ty127, e1, e2, e4, e5, e20, e21, e22, hulen, n1, b1, i1, r1, j1]
          exact ⟨l.length - (i + 1), by omega, (by ((repeat' (first | exact Ext.refl _ | assumption | refine Ext.trans ?_ (Ext.new _ _) | refine Ext.put ?_ ?_ _ | refine Ext.trans ?_ (by assumption))) <;> (first | omega | (simp only [AH.size_new, AH.size_put] <;> omega)))), i + 1, by omega, rfl, by simp, true, rfl, ⟨fun h => (by cases h), fun h => ((hts.1 h).2 (.inl (by omega))).elim⟩⟩
        by_cases j2 : l[i].2.1 < 0
        · simp (maxSteps := 2000000) (disch := first | omega | (simp only [AH.size_new, AH.size_put] <;> omega) | fail) only [amR Tryd.prog ro X, amS, seval, reduceCtorEq, ty3, ty4, ty9, ty27, ty29, ty36, ty38, ty43, ty106, ty120, ty127, e1, e2, e4, e5, e20, e21, e22, hulen, n1, b1, i1, r1, j1, j2]
          exact ⟨l.length - (i + 1), by omega, (by ((repeat' (first | exact Ext.refl _ | assumption | refine Ext.trans ?_ (Ext.new _ _) | refine Ext.put ?_ ?_ _ | refine Ext.trans ?_ (by assumption))) <;> (first | omega | (simp only [AH.size_new, AH.size_put] <;> omega)))), i + 1, by omega, rfl, by simp, true, rfl, ⟨fun h => (by cases h), fun h => ((hts.1 h).2 (.inr (.inl j2))).elim⟩⟩
        by_cases j3 : 7 < l[i].2.1
        · simp (maxSteps := 2000000) (disch := first | omega | (simp only [AH.size_new, AH.size_put] <;> omega) | fail) only [amR Tryd.prog ro X, amS, seval, reduceCtorEq, ty3, ty4, ty9, ty27, ty29, ty36, ty38, ty43, ty106, ty120, ty127, e1, e2, e4, e5, e20, e21, e22, hulen, n1, b1, i1, r1, j1, j2, j3]
          exact ⟨l.length - (i + 1), by omega, (by ((repeat' (first | exact Ext.refl _ | assumption | refine Ext.trans ?_ (Ext.new _ _) | refine Ext.put ?_ ?_ _ | refine Ext.trans ?_ (by assumption))) <;> (first | omega | (simp only [AH.size_new, AH.size_put] <;> omega)))), i + 1, by omega, rfl, by simp, true, rfl, ⟨fun h => (by cases h), fun h => ((hts.1 h).2 (.inr (.inr j3))).elim⟩⟩
        · simp (maxSteps := 2000000) (disch := first | omega | (simp only [AH.size_new, AH.size_put] <;> omega) | fail) only [amR Tryd.prog ro X, amS, seval, reduceCtorEq, ty3, ty4, ty9, ty27, ty29, ty36, ty38, ty43, ty106, ty120, ty127, e1, e2, e4, e5, e20, e21, e22, hulen, n1, b1, i1, r1, j1, j2, j3]
          exact ⟨l.length - (i + 1), by omega, (by ((repeat' (first | exact Ext.refl _ | assumption | refine Ext.trans ?_ (Ext.new _ _) | refine Ext.put ?_ ?_ _ | refine Ext.trans ?_ (by assumption))) <;> (first | omega | (simp only [AH.size_new, AH.size_put] <;> omega)))), i + 1, by omega, rfl, by simp, false, rfl, ⟨fun _ => hts.2 ⟨hb', by rintro (h | h | h); omega; exact j2 h; exact j3 h⟩, fun _ => rfl⟩⟩
    · have hil : i = l.length := by simp at h; omega
      subst hil
      rw [List.take_of_length_le (Nat.le_refl _)] at hb
      have gt := (hE.get _ (by omega)).trans gt1
      have gb := (hE.get _ (by omega)).trans gb1
      cases b with
      | true =>
        have hbad : nextBad prog l := .inr (.inr (fun h => by cases hb.2 h))
        simp (maxSteps := 2000000) (disch := first | omega | (simp only [AH.size_new, AH.size_put] <;> omega) | fail) only [amR Tryd.prog ro X, amS, seval, reduceCtorEq, ty3, ty4, ty9, ty27, ty29, ty36, ty38, ty43, ty106, ty120, ty127, e4, e5, tc, gt]
        exact ⟨by rw [nextR, if_pos hbad]; rfl, Ext.put (hE1.trans hE) (by omega) _⟩
      | false =>
        have hb' := hb.1 rfl
        have hgood : ¬ nextBad prog l := by
          rintro (h | h | h)
          · exact h hv
          · omega
          · exact h hb'
        simp (maxSteps := 2000000) (disch := first | omega | (simp only [AH.size_new, AH.size_put] <;> omega) | fail) only [amR Tryd.prog ro X, amS, seval, reduceCtorEq, ty3, ty4, ty9, ty27, ty29, ty36, ty38, ty43, ty106, ty120, ty127, e1, e2, e4, e5, gb]
        generalize hHm : H.new _ = Hm
        have zm : Hm.size = H.size + 1 := by rw [← hHm]; rfl
        have hEm : Ext H Hm := by rw [← hHm]; exact Ext.new _ _
        have gm : Hm.get H.size = .cells (mc cs .nil 0 0 0 false ByteArray.empty) 7 := by rw [← hHm]; exact AH.get_new_self _ _
        clear hHm
        have hEAH := hE1.trans hE
        have hTH := hT.ext hEAH
        have hPH := hP.ext hEAH
        have hcH := hc.ext hEAH
        have hpF : H.size ∉ F := fun h => by have := hcH.bound _ h; omega
        refine (Mach.run_a (lo := H.size) _ (by first | omega | (simp only [AH.size_new, AH.size_put] <;> omega)) (hTH.ext hEm) (hPH.ext hEm) H.size (by omega) (by omega) (by omega) (by omega) cs prog F (hcH.ext hEm) hpF hv m0 m0_ok .nil .nil (.inl rfl) false ByteArray.empty gm).mono ?_
        rintro R Hr ⟨rfl, hXr, hlook⟩
        have zr := hXr.size
        have hEr : Ext H Hr := ⟨by omega, fun b hb => (hXr.get b (by omega) (by simp; omega)).trans (hEm.get b hb)⟩
        have hlast : ∀ t, TickOk t → (∀ a n m, t ≠ .look a n m) → ∀ k, k ≤ l.length → playR prog (startR prog) (l.take k) = t → nextR prog l = turnOf t := fun t ht hn k hk he => by
          have := playR_app (p := prog) (l.take k) (l.drop k) (startR prog)
          rw [List.take_append_drop, he, playR_fin hn] at this
          rw [nextR, if_neg hgood, this]
        have hstart : runR prog m0 = startR prog := rfl
        rw [hstart] at hlook
        rw [hstart]
        simp (maxSteps := 2000000) (disch := first | omega | (simp only [AH.size_new, AH.size_put] <;> omega) | fail) only [amR Tryd.prog ro X, amS, seval, reduceCtorEq, ty3, ty4, ty9, ty27, ty29, ty36, ty38, ty43, ty106, ty120, ty127, tc, e1, hulen]
        generalize hHt : AH.put (AH.new Hr _) Hr.size _ = Ht
        have zt : Ht.size = Hr.size + 1 := by rw [← hHt]; rfl
        have hEt : Ext Hr Ht := by rw [← hHt]; exact (by ((repeat' (first | exact Ext.refl _ | assumption | refine Ext.trans ?_ (Ext.new _ _) | refine Ext.put ?_ ?_ _ | refine Ext.trans ?_ (by assumption))) <;> (first | omega | (simp only [AH.size_new, AH.size_put] <;> omega))))
        have gq : Ht.get Hr.size = .cells (tcl (turnOf (startR prog))) 6 := by rw [← hHt]; exact AH.get_put_self _ _ _
        clear hHt
        generalize hq : Hr.size = q
        rw [hq] at gq zt
        refine Wp.loopC (fun k e H2 => Ext H H2 ∧ e 4 = .pointer (some ⟨A.size + 1, 0, none⟩) ∧ e 8 = .pointer (some ⟨H.size, 0, none⟩) ∧ e 9 = .pointer (some ⟨q, 0, none⟩) ∧ e 52 = us.v ∧ e 53 = .int .i64 l.length ∧ ∃ j : Nat, j ≤ l.length ∧ k = l.length - j ∧ e 54 = .int .i64 j ∧ ∃ t, playR prog (startR prog) (l.take j) = t ∧ TickOk t ∧ q < H2.size ∧ H2.get q = .cells (tcl (turnOf t)) 6 ∧ ∀ a n m, t = .look a n m → ∃ s, H2.get H.size = .cells (mc cs s m.pc m.steps m.looks a n) 7 ∧ Stk H.size H2 s m.st ∧ (s.nl = true ∨ s.b ≠ H.size)) (l.length - 0) ?_ ?_
        · simp (maxSteps := 2000000) (disch := first | omega | (simp only [AH.size_new, AH.size_put] <;> omega) | fail) only [amV, amH, amQ, amL, amN Tryd.prog, amS, seval, reduceCtorEq, ty3, ty4, ty9, ty27, ty29, ty36, ty38, ty43, ty106, ty120, ty127, e4]
          refine ⟨hEr.trans hEt, 0, by omega, rfl, rfl, startR prog, ?_, startR_ok hv, by omega, gq, fun a n m h => ?_⟩
          · rw [List.take_zero]; cases startR prog <;> rfl
          · obtain ⟨s', q1, q2, q3, _⟩ := hlook a n m h
            exact ⟨s', (hEt.get _ (by omega)).trans q1, q2.ext hEt, q3⟩
        · rintro k f H2 ⟨hE2', f4, f8, f9, f52, f53, j, hj, rfl, f54, t, ht, hok, hqs, gq2, hlk⟩
          have z2' := hE2'.size
          have gt2 := (hE2'.get _ (by omega)).trans gt
          have hEA2 := hEAH.trans hE2'
          have gq3 := gq2
          unfold tcl at gq3
          have fine : nextR prog l = turnOf t → ARes.ret (tc (turnOf t)) = ARes.ret (tc (nextR prog l)) := fun h => by rw [h]
          simp (maxSteps := 2000000) (disch := first | omega | (simp only [AH.size_new, AH.size_put] <;> omega) | fail) only [amR Tryd.prog ro X, amS, seval, reduceCtorEq, ty3, ty4, ty9, ty27, ty29, ty36, ty38, ty43, ty106, ty120, ty127, f53, f54]
          refine CondB.split (fun h => ?_) (fun h => ?_)
          · have hjl : j < l.length := by simp at h; omega
            obtain ⟨n1, b1, i1, r1, _⟩ := row_rep (hu.ext (hEAH.trans hE2')) hjl
            have hzr : l[j].2.2.size ≤ 2000 := by
              have := hb' _ (List.getElem_mem hjl)
              have h2 : ¬ 2000 < l[j].2.2.size := fun h => this (.inl h)
              omega
            cases t with
            | go m => exact hok.elim
            | fin c tx st =>
              simp only [turnOf] at gq3
              simp (maxSteps := 2000000) (disch := first | omega | (simp only [AH.size_new, AH.size_put] <;> omega) | fail) only [amR Tryd.prog ro X, amS, seval, reduceCtorEq, ty3, ty4, ty9, ty27, ty29, ty36, ty38, ty43, ty106, ty120, ty127, f4, f8, f9, f52, f53, f54, hulen, n1, b1, i1, r1, gq3, gt2]
              exact ⟨by rw [hlast _ hok (fun a n m h => by cases h) j hj ht]; rfl, (by ((repeat' (first | exact Ext.refl _ | assumption | refine Ext.trans ?_ (Ext.new _ _) | refine Ext.put ?_ ?_ _ | refine Ext.trans ?_ (by assumption))) <;> (first | omega | (simp only [AH.size_new, AH.size_put] <;> omega))))⟩
            | look a n m =>
              simp only [turnOf] at gq3
              simp (maxSteps := 2000000) (disch := first | omega | (simp only [AH.size_new, AH.size_put] <;> omega) | fail) only [amR Tryd.prog ro X, amS, seval, reduceCtorEq, ty3, ty4, ty9, ty27, ty29, ty36, ty38, ty43, ty106, ty120, ty127, f4, f8, f9, f52, f53, f54, hulen, n1, b1, i1, r1, gq3]
              generalize hH3 : AH.put (AH.new H2 _) _ _ = H3
              have z3 : H3.size = H2.size + 1 := by rw [← hH3]; rfl
              have hE3 : Ext H2 H3 := by rw [← hH3]; exact (by ((repeat' (first | exact Ext.refl _ | assumption | refine Ext.trans ?_ (Ext.new _ _) | refine Ext.put ?_ ?_ _ | refine Ext.trans ?_ (by assumption))) <;> (first | omega | (simp only [AH.size_new, AH.size_put] <;> omega))))
              clear hH3
              obtain ⟨s', q1, q2, q3⟩ := hlk a n m rfl
              obtain ⟨hok1, hok2, hok3⟩ := hok
              have q2' := q2.ext hE3
              have hgq3 := (hE3.get q hqs).trans gq2
              refine (told_a H _ (by omega) (hE2'.trans hE3) hTH hPH H.size (Nat.le_refl _) (by omega) cs prog F hcH hv m hok2 hok3 s' q2' q3 a n ((hE3.get _ (by omega)).trans q1) l[j] hzr).mono ?_
              rintro R H4 ⟨rfl, hE4, z4, k4, hlk4⟩
              have gq4 := (k4 q (by omega) (by omega) (stk_ne q2' (by decide) hgq3)).trans hgq3
              have gq5 := gq4
              unfold tcl at gq5
              simp only [turnOf] at gq5
              have hstep : playR prog (startR prog) (l.take (j + 1)) = toldR prog a n m l[j] := by
                rw [List.take_add_one, List.getElem?_eq_getElem hjl, playR_app, ht]
                show playR prog (toldR prog a n m l[j]) [] = _
                cases toldR prog a n m l[j] <;> rfl
              have hz4 := hE4.size
              simp (maxSteps := 2000000) (disch := first | omega | (simp only [AH.size_new, AH.size_put] <;> omega) | fail) only [amR Tryd.prog ro X, amS, seval, reduceCtorEq, ty3, ty4, ty9, ty27, ty29, ty36, ty38, ty43, ty106, ty120, ty127, f4, f8, f9, f52, f53, f54, tc, gq5]
              refine ⟨l.length - (j + 1), by omega, hE4.put (by omega) _, j + 1, by omega, rfl, by simp, toldR prog a n m l[j], hstep, toldR_ok hv (show TickOk (.look a n m) from ⟨hok1, hok2, hok3⟩) hzr, by omega, rfl, fun a' n' m' h => ?_⟩
              obtain ⟨s4, r1', r2', r3'⟩ := hlk4 a' n' m' h
              exact ⟨s4, r1', r2'.frame (by simp only [AH.size_put]; omega) (fun hn => AH.get_put_other (by rcases stk_ne r2' (by decide) gq4 with h | h; rw [h] at hn; cases hn; exact Ne.symm h)), r3'⟩
          · have hjl : j = l.length := by simp at h; omega
            subst hjl
            simp (maxSteps := 2000000) (disch := first | omega | (simp only [AH.size_new, AH.size_put] <;> omega) | fail) only [amR Tryd.prog ro X, amS, seval, reduceCtorEq, ty3, ty4, ty9, ty27, ty29, ty36, ty38, ty43, ty106, ty120, ty127, f4, f9, gq3, gt2]
            rw [List.take_length] at ht
            exact ⟨by rw [nextR, if_neg hgood, ht], (by ((repeat' (first | exact Ext.refl _ | assumption | refine Ext.trans ?_ (Ext.new _ _) | refine Ext.put ?_ ?_ _ | refine Ext.trans ?_ (by assumption))) <;> (first | omega | (simp only [AH.size_new, AH.size_put] <;> omega))))⟩
end Go.Proofs.YtmelgjblkmbhjaaDoor.Amu.Turn
