import Derived.Test.YtmelgjblkmbhjaaGreatDoorAmuTy
import Derived.Test.YtmelgjblkmbhjaaGreatDoorAmRun
import Derived.Test.YtmelgjblkmbhjaaGreatDoorAmuMach
namespace Go.Proofs.YtmelgjblkmbhjaaGreatDoor.Amu.Turn
open Go Go.AM Go.Proofs
set_option linter.all false
open Ty
variable {ro : Nat} {X : FuncId → List Value → AH → ARes → AH → Prop}
set_option maxRecDepth 10000
open Mach (mc tc)
theorem stk_ne {lo : Nat} {A : AH} {s : Sl} {l : List ByteArray} (h : Stk lo A s l) {b : Nat} {c : List Value} {w : Nat} (hw : w ≠ 1) (g : A.get b = .cells c w) : s.nl = true ∨ b ≠ s.b := by
 rcases h with ⟨rfl, _⟩ | ⟨_, _, _, _, _, c', hg, _⟩
 ·exact .inl rfl
 ·exact .inr (by rintro rfl; rw [g] at hg; injection hg with _ h; exact hw h)
set_option maxHeartbeats 4000000 in
theorem told_b (A0 A : AH) (hro : ro ≤ A0.size) (hE : Ext A0 A) (hT : Tab 0 A0) (hP : Pow 6 A0) (p : Nat) (hp0 : A0.size ≤ p) (hp : p < A.size) (cs : Sl) (prog : List TIns) (F : List Nat) (hc : SlR A0 cs prog F) (hok : ProgOk prog) (m : Mach) (hm : MachOk m) (hl : m.st.length < 50) (s : Sl) (hs : Stk A0.size A s m.st) (hsp : s.nl = true ∨ s.b ≠ p) (ask : Bool) (nm : ByteArray) (g : A.get p = .cells (mc cs s m.pc m.steps m.looks ask nm) 7) (r : TReply) (hr : r.2.2.size ≤ 2000) :
 ACalls Tryz.prog ro X 77 [.pointer (some ⟨p, 0, none⟩), .agg #[.bool r.1, .int .i64 r.2.1, .string r.2.2]] A (fun R A' => R = .ret (tc (turnOf (toldR prog ask nm m r))) ∧ Ext A0 A' ∧ A.size ≤ A'.size ∧ (∀ b, b < A.size → b ≠ p → (s.nl = true ∨ b ≠ s.b) → A'.get b = A.get b) ∧ ∀ a n m', toldR prog ask nm m r = .look a n m' → ∃ s', A'.get p = .cells (mc cs s' m'.pc m'.steps m'.looks a n) 7 ∧ Stk A0.size A' s' m'.st ∧ (s'.nl = true ∨ s'.b ≠ p) ∧ ((s'.b = s.b ∧ s.nl = false) ∨ A.size ≤ s'.b)) := by
 obtain ⟨r1, r2, r3⟩ := r
 simp only at hr
 have zE := hE.size
 have hFb : ∀ b ∈ F, b < A0.size := fun b hb => hc.bound b hb
 refine ACalls.enterQ (rs := [.cell 4 122]) Tryz.func77 rfl (by kernel_rfl) rfl ?_
 have g' := g
 unfold mc at g
 simp (maxSteps := 2000000) (disch := first | omega | (simp only [AH.zN, AH.zP] <;> omega) | fail) only [amR Tryz.prog ro X, amS, seval, reduceCtorEq, ty3, ty4, ty9, ty22, ty56, ty122, ty126, ty133, g]
 generalize hH : AH.new (AH.new A _) _ = H
 have zH : H.size = A.size + 2 := by rw [← hH]; rfl
 have hEH : Ext A H := by rw [← hH]; exact (by ((repeat' (first | exact Ext.refl _ | assumption | refine Ext.trans ?_ (Ext.new _ _) | refine Ext.put ?_ ?_ _ | refine Ext.trans ?_ (by assumption))) <;> (first | omega | (simp only [AH.zN, AH.zP] <;> omega))))
 have gp := (hEH.get p hp).trans g
 have gp' := (hEH.get p hp).trans g'
 have gb : H.get A.size = .cells [.bool r1, .int .i64 r2, .string r3] 3 := by rw [← hH, AH.gNo (by simp only [AH.zN]; omega)]; exact AH.gNs _ _
 have gt : H.get (A.size + 1) = .cells [.bool false, .int .i64 0, .string ByteArray.empty, .bool false, .string ByteArray.empty, .int .i64 0] 6 := by rw [← hH]; exact AH.gNs _ _
 clear hH
 have hsH := hs.ext hEH
 have hEA := hE.trans hEH
 have push : ∀ v : ByteArray, v.size ≤ 2000 → ∃ s1 H1, aAppend Tryz.prog ro (H.new (.cells [.string v] 1)) 22 s.v (Sl.v ⟨false, H.size, 0, 1, 1⟩) = some (s1.v, H1) ∧ Stk A0.size H1 s1 (m.st ++ [v]) ∧ H.size + 1 ≤ H1.size ∧ (∀ b, b < H.size → (s.nl = true ∨ b ≠ s.b) → H1.get b = H.get b) ∧ s1.b ≠ p ∧ ((s1.b = s.b ∧ s.nl = false) ∨ H.size ≤ s1.b) := by
  intro v hv
  obtain ⟨s1, H1, h1, h2, h3, h4, h5, h6⟩ := (hsH.ext (Ext.new H (.cells [.string v] 1))).push (P := Tryz.prog) hro (by simp only [AH.zN]; omega) (t := 22) (by simp only [ty22]) (x := Sl.v ⟨false, H.size, 0, 1, 1⟩) (v := v) (by simp [Sl.v, aSource, aRow_eq, AH.gNs, rowK]) (by unfold BIG; omega) (by omega)
  refine ⟨s1, H1, h1, h2, h3, fun b hb hn => (h4 b (by simp only [AH.zN]; omega) hn).trans (AH.gNo (by omega)), ?_, h6.imp id fun h => by simp only [AH.zN] at h; omega⟩
  rcases h6 with ⟨h6, h7⟩ | h6
  ·rw [h6]; rcases hsp with h | h; rw [h7] at h; cases h; exact h
  ·simp only [AH.zN] at h6; omega
 have hpF : p ∉ F := fun h => by have := hFb _ h; omega
 have hsb : s.nl = false → A0.size ≤ s.b := fun h => by
  rcases hs with ⟨rfl, _⟩ | ⟨_, h, _⟩
  ·cases h
  ·exact h
 have hA0 : ∀ {H1 H2 : AH}, H.size + 1 ≤ H1.size → (∀ b, b < H.size → (s.nl = true ∨ b ≠ s.b) → H1.get b = H.get b) → H2.size = H1.size → (∀ b, b ≠ p → H2.get b = H1.get b) → Ext A0 H2 := fun z1 k1 z2 k2 => ⟨by omega, fun b hb => by
  rw [k2 b (by omega), k1 b (by omega) (by cases hn : s.nl; exact .inr (by have := hsb hn; omega); exact .inl rfl)]
  exact hEA.get b hb⟩
 cases ask with
 | false =>
   have htold : toldR prog false nm m (r1, r2, r3) = runR prog ⟨m.pc, m.st ++ [flagS r1], m.steps, m.looks⟩ := rfl
   simp (maxSteps := 2000000) (disch := first | omega | (simp only [AH.zN, AH.zP] <;> omega) | fail) only [amR Tryz.prog ro X, amS, seval, reduceCtorEq, ty3, ty4, ty9, ty22, ty56, ty122, ty126, ty133, gp, gb]
   refine (Mach.digit_a _ _).mono ?_
   rintro r H' ⟨rfl, rfl⟩
   obtain ⟨s1, H1, w1, w2, w3, w4, w5, w6⟩ := push (flagS r1) (by rw [flagS_size]; omega)
   have gp1 := (w4 p (by omega) (by rcases hsp with h | h; exact .inl h; exact .inr (Ne.symm h))).trans gp
   simp (disch := first | omega | fail) only [amR Tryz.prog ro X, amS, seval, reduceCtorEq, ty3, ty4, ty9, ty22, ty56, ty122, ty126, ty133, gp, gb, w1, gp1]
   generalize hH2 : AH.put H1 p _ = H2
   have k0 : H2.get p = .cells (mc cs s1 m.pc m.steps m.looks false nm) 7 := by rw [← hH2]; exact AH.gPs _ _ _
   have k1 : H2.size = H1.size := by rw [← hH2]; rfl
   have k2 : ∀ b, b ≠ p → H2.get b = H1.get b := fun b hb => by rw [← hH2]; exact AH.gPo hb
   clear hH2
   have hE2 := hA0 w3 w4 k1 k2
   have hm' := push_ok hm hl (s := flagS r1) (by rw [flagS_size]; omega)
   refine (Mach.run_a (lo := A0.size) _ (by first | omega | (simp only [AH.zN, AH.zP] <;> omega)) (hT.ext hE2) (hP.ext hE2) p (by omega) (by omega) (by omega) hro cs prog F (hc.ext hE2) hpF hok _ hm' s1 (w2.frame (by omega) (fun _ => k2 _ w5)) (.inr w5) false nm k0).mono ?_
   rintro R H3 ⟨rfl, hX3, hlook⟩
   have z3 := hX3.size
   have gt3 : H3.get (A.size + 1) = _ := (hX3.get _ (by omega) (by simp; omega)).trans ((k2 _ (by omega)).trans ((w4 _ (by omega) (stk_ne hsH (by decide) gt)).trans gt))
   simp (disch := first | omega | fail) only [amR Tryz.prog ro X, amS, seval, reduceCtorEq, ty3, ty4, ty9, ty22, ty56, ty122, ty126, ty133, tc, gt3]
   have hne : A.size + 1 ≠ p := by omega
   refine ⟨by rw [htold], ⟨(by first | omega | (simp only [AH.zN, AH.zP] <;> omega)), fun b hb => ?_⟩, (by first | omega | (simp only [AH.zN, AH.zP] <;> omega)), fun b hb hbp hbs => ?_, fun a n m' h => ?_⟩
   ·rw [AH.gPo (by omega)]
    exact (hX3.get b (by omega) (by simp; omega)).trans (hE2.get b hb)
   ·rw [AH.gPo (by omega)]
    exact (hX3.get b (by omega) (by simpa using hbp)).trans ((k2 b hbp).trans ((w4 b (by omega) hbs).trans (hEH.get b hb)))
   ·rw [htold] at h
    obtain ⟨s', q1, q2, q3, q4⟩ := hlook a n m' h
    exact ⟨s', q1, q2.frame (by simp only [AH.zP]; omega) (fun hn => AH.gPo (by rcases stk_ne q2 (by decide) (show H3.get (A.size + 1) = .cells _ 6 from gt3) with h | h; rw [h] at hn; cases hn; exact Ne.symm h)), q3, by
     rcases q4 with ⟨_, q4⟩ | q4
     ·rw [q4]; exact w6.imp id fun h => by omega
     ·exact .inr (by omega)⟩
 | true =>
   cases r1 with
   | false =>
     have htold : toldR prog true nm m (false, r2, r3) = .fin 4 nm m.steps := by rfl
     simp (maxSteps := 2000000) (disch := first | omega | (simp only [AH.zN, AH.zP] <;> omega) | fail) only [amR Tryz.prog ro X, amS, seval, reduceCtorEq, ty3, ty4, ty9, ty22, ty56, ty122, ty126, ty133, gp, gb]
     refine (Mach.end_a _ (by first | omega | (simp only [AH.zN, AH.zP] <;> omega)) p (by omega) cs s m.pc m.steps m.looks true nm gp' 4 nm).mono ?_
     rintro R H3 ⟨rfl, hE3⟩
     have z3 := hE3.size
     have gt3 := (hE3.get (A.size + 1) (by omega)).trans gt
     simp (disch := first | omega | fail) only [amR Tryz.prog ro X, amS, seval, reduceCtorEq, ty3, ty4, ty9, ty22, ty56, ty122, ty126, ty133, tc, gt3]
     refine ⟨by rw [htold], ⟨(by first | omega | (simp only [AH.zN, AH.zP] <;> omega)), fun b hb => ?_⟩, (by first | omega | (simp only [AH.zN, AH.zP] <;> omega)), fun b hb hbp hbs => ?_, fun a n m' h => by rw [htold] at h; cases h⟩
     ·rw [AH.gPo (by omega)]
      exact (hE3.get b (by omega)).trans (hEA.get b hb)
     ·rw [AH.gPo (by omega)]
      exact (hE3.get b (by omega)).trans (hEH.get b hb)
   | true =>
   by_cases j2 : r2 = 0
   ·subst j2
    have htold : toldR prog true nm m (true, 0, r3) = runR prog ⟨m.pc, m.st ++ [r3], m.steps, m.looks⟩ := rfl
    simp (maxSteps := 2000000) (disch := first | omega | (simp only [AH.zN, AH.zP] <;> omega) | fail) only [amR Tryz.prog ro X, amS, seval, reduceCtorEq, ty3, ty4, ty9, ty22, ty56, ty122, ty126, ty133, gp, gb]
    obtain ⟨s1, H1, w1, w2, w3, w4, w5, w6⟩ := push (r3) hr
    have gp1 := (w4 p (by omega) (by rcases hsp with h | h; exact .inl h; exact .inr (Ne.symm h))).trans gp
    simp (disch := first | omega | fail) only [amR Tryz.prog ro X, amS, seval, reduceCtorEq, ty3, ty4, ty9, ty22, ty56, ty122, ty126, ty133, gp, gb, w1, gp1]
    generalize hH2 : AH.put H1 p _ = H2
    have k0 : H2.get p = .cells (mc cs s1 m.pc m.steps m.looks true nm) 7 := by rw [← hH2]; exact AH.gPs _ _ _
    have k1 : H2.size = H1.size := by rw [← hH2]; rfl
    have k2 : ∀ b, b ≠ p → H2.get b = H1.get b := fun b hb => by rw [← hH2]; exact AH.gPo hb
    clear hH2
    have hE2 := hA0 w3 w4 k1 k2
    have hm' := push_ok hm hl (s := r3) hr
    refine (Mach.run_a (lo := A0.size) _ (by first | omega | (simp only [AH.zN, AH.zP] <;> omega)) (hT.ext hE2) (hP.ext hE2) p (by omega) (by omega) (by omega) hro cs prog F (hc.ext hE2) hpF hok _ hm' s1 (w2.frame (by omega) (fun _ => k2 _ w5)) (.inr w5) true nm k0).mono ?_
    rintro R H3 ⟨rfl, hX3, hlook⟩
    have z3 := hX3.size
    have gt3 : H3.get (A.size + 1) = _ := (hX3.get _ (by omega) (by simp; omega)).trans ((k2 _ (by omega)).trans ((w4 _ (by omega) (stk_ne hsH (by decide) gt)).trans gt))
    simp (disch := first | omega | fail) only [amR Tryz.prog ro X, amS, seval, reduceCtorEq, ty3, ty4, ty9, ty22, ty56, ty122, ty126, ty133, tc, gt3]
    have hne : A.size + 1 ≠ p := by omega
    refine ⟨by rw [htold], ⟨(by first | omega | (simp only [AH.zN, AH.zP] <;> omega)), fun b hb => ?_⟩, (by first | omega | (simp only [AH.zN, AH.zP] <;> omega)), fun b hb hbp hbs => ?_, fun a n m' h => ?_⟩
    ·rw [AH.gPo (by omega)]
     exact (hX3.get b (by omega) (by simp; omega)).trans (hE2.get b hb)
    ·rw [AH.gPo (by omega)]
     exact (hX3.get b (by omega) (by simpa using hbp)).trans ((k2 b hbp).trans ((w4 b (by omega) hbs).trans (hEH.get b hb)))
    ·rw [htold] at h
     obtain ⟨s', q1, q2, q3, q4⟩ := hlook a n m' h
     exact ⟨s', q1, q2.frame (by simp only [AH.zP]; omega) (fun hn => AH.gPo (by rcases stk_ne q2 (by decide) (show H3.get (A.size + 1) = .cells _ 6 from gt3) with h | h; rw [h] at hn; cases hn; exact Ne.symm h)), q3, by
     rcases q4 with ⟨_, q4⟩ | q4
     ·rw [q4]; exact w6.imp id fun h => by omega
     ·exact .inr (by omega)⟩
   ·have htold : toldR prog true nm m (true, r2, r3) = .fin 5 nm m.steps := by unfold toldR; simp only [Bool.true_eq_false, if_false]; rw [if_pos j2]
    simp (maxSteps := 2000000) (disch := first | omega | (simp only [AH.zN, AH.zP] <;> omega) | fail) only [amR Tryz.prog ro X, amS, seval, reduceCtorEq, ty3, ty4, ty9, ty22, ty56, ty122, ty126, ty133, gp, gb, j2]
    refine (Mach.end_a _ (by first | omega | (simp only [AH.zN, AH.zP] <;> omega)) p (by omega) cs s m.pc m.steps m.looks true nm gp' 5 nm).mono ?_
    rintro R H3 ⟨rfl, hE3⟩
    have z3 := hE3.size
    have gt3 := (hE3.get (A.size + 1) (by omega)).trans gt
    simp (disch := first | omega | fail) only [amR Tryz.prog ro X, amS, seval, reduceCtorEq, ty3, ty4, ty9, ty22, ty56, ty122, ty126, ty133, tc, gt3]
    refine ⟨by rw [htold], ⟨(by first | omega | (simp only [AH.zN, AH.zP] <;> omega)), fun b hb => ?_⟩, (by first | omega | (simp only [AH.zN, AH.zP] <;> omega)), fun b hb hbp hbs => ?_, fun a n m' h => by rw [htold] at h; cases h⟩
    ·rw [AH.gPo (by omega)]
     exact (hE3.get b (by omega)).trans (hEA.get b hb)
    ·rw [AH.gPo (by omega)]
     exact (hE3.get b (by omega)).trans (hEH.get b hb)
theorem row_rep {A : AH} {s : Sl} {l : List TReply} {F : List Nat} (h : SlR A s l F) {i : Nat} (hi : i < l.length) : s.nl = false ∧ s.b < A.size ∧ i < s.len ∧
 rowK (s.o + i * 3) 3 (A.get s.b) = some [.bool l[i].1, .int .i64 l[i].2.1, .string l[i].2.2] ∧ l[i].2.2.size < 4611686018427387904 := by
 obtain ⟨n1, b1, m1, i1, cs, Fi, c1, q1, _⟩ := h.row hi
 rw [aRow_eq] at c1
 obtain ⟨rfl, _, z⟩ := rep_Reply.1 q1
 exact ⟨n1, b1, i1, c1, big_lt z⟩
def tcl (t : TTurn) : List Value := [.bool t.1, .int .i64 t.2.1, .string t.2.2.1, .bool t.2.2.2.1, .string t.2.2.2.2.1, .int .i64 t.2.2.2.2.2]
end Go.Proofs.YtmelgjblkmbhjaaGreatDoor.Amu.Turn
