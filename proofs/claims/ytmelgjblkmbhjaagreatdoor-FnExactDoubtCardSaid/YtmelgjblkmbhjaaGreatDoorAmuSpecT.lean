import Derived.Test.YtmelgjblkmbhjaaGreatDoorAmuTy
import Derived.Test.YtmelgjblkmbhjaaGreatDoorAmRun
import Derived.Test.YtmelgjblkmbhjaaGreatDoorAmuSpecL
namespace Go.Proofs.YtmelgjblkmbhjaaGreatDoor.Amu.SpecT
open Go Go.AM Go.Proofs
set_option linter.all false
open Ty
variable {ro : Nat} {X : FuncId → List Value → AH → ARes → AH → Prop}
set_option maxRecDepth 10000
open SpecM (sc)
open SpecL (StR)
theorem StR_sc {lo : Nat} {A : AH} {t : Tick} {v : Value} (h : StR lo A t v) : ∃ s pc st lk ov c tx ask nm w, v = sc s pc st lk ov c tx ask nm w := by
 cases t with
 | go m => obtain ⟨s, rfl, _⟩ := h; exact ⟨_, _, _, _, _, _, _, _, _, _, rfl⟩
 | fin c t st => obtain ⟨s, pc, lk, ask, nm, rfl⟩ := h; exact ⟨_, _, _, _, _, _, _, _, _, _, rfl⟩
 | look a n m => obtain ⟨s, pc, lk, rfl⟩ := h; exact ⟨_, _, _, _, _, _, _, _, _, _, rfl⟩
theorem StR_put {lo : Nat} {A : AH} {t : Tick} {v : Value} (h : StR lo A t v) {b : Nat} {c : List Value} (g : A.get b = .cells c 10) (o : AObj) : StR lo (A.put b o) t v := by
 cases t with
 | go m =>
   obtain ⟨s, rfl, h2⟩ := h
   exact ⟨s, rfl, h2.frame (Nat.le_refl _) (fun hn => AH.gPo (by rcases Turn.stk_ne h2 (by decide) g with h | h; rw [h] at hn; cases hn; exact Ne.symm h))⟩
 | fin c t st => exact h
 | look a n m => exact h
set_option maxHeartbeats 4000000 in
theorem l2Step_a (A0 A : AH) (hro : ro ≤ A0.size) (hE : Ext A0 A) (cs : Sl) (prog : TProgram) (F : List Nat) (hc : SlR A0 cs prog F) (hok : ProgOk prog) (us : Sl) (l : List TReply) (G : List Nat) (hu : SlR A0 us l G) (hl : ∀ r ∈ l, r.2.2.size ≤ 2000) (m : Mach) (hm : MachOk m) (s : Sl) (hs : Stk A0.size A s m.st) :
 ACalls Tryz.prog ro X 124 [.agg #[cs.v], sc s m.pc m.steps m.looks false 0 ⟨#[]⟩ false ⟨#[]⟩ false, us.v] A (fun r A' => ∃ v, r = .ret v ∧ StR A0.size A' (stepS prog l m) v ∧ Ext A0 A' ∧ A.size ≤ A'.size ∧ ∀ b, b < A.size → (s.nl = true ∨ b ≠ s.b) → A'.get b = A.get b) := by
 have zE := hE.size
 have hclen := hc.len
 have hpcb := hm.pc
 have hst := hm.steps
 refine ACalls.enterQ (rs := [.cell 6 195]) Tryz.func124 rfl (by kernel_rfl) rfl ?_
 unfold sc
 simp (maxSteps := 2000000) (disch := first | omega | (simp only [AH.zN, AH.zP] <;> omega) | fail) only [amR Tryz.prog ro X, amS, seval, reduceCtorEq, ty3, ty4, ty9, ty22, ty56, ty58, ty106, ty195]
 generalize hH : AH.new (AH.new (AH.new A _) _) _ = H
 have zH : H.size = A.size + 3 := by rw [← hH]; rfl
 have hEH : Ext A H := by rw [← hH]; exact (by ((repeat' (first | exact Ext.refl _ | assumption | refine Ext.trans ?_ (Ext.new _ _) | refine Ext.put ?_ ?_ _ | refine Ext.trans ?_ (by assumption))) <;> (first | omega | (simp only [AH.zN, AH.zP] <;> omega))))
 have gc : H.get A.size = .cells [cs.v] 1 := by rw [← hH, AH.gNo (by simp only [AH.zN]; omega), AH.gNo (by simp only [AH.zN]; omega)]; exact AH.gNs _ _
 have gs : H.get (A.size + 1) = .cells [.int .i64 m.pc, s.v, .int .i64 m.steps, .int .i64 m.looks, .bool false, .int .i64 0, .string ⟨#[]⟩, .bool false, .string ⟨#[]⟩, .bool false] 10 := by rw [← hH, AH.gNo (by simp only [AH.zN]; omega)]; exact AH.gNs (A.new _) _
 have go : H.get (A.size + 2) = .cells [.int .i64 0, Sl.nil.v, .int .i64 0, .int .i64 0, .bool false, .int .i64 0, .string .empty, .bool false, .string .empty, .bool false] 10 := by rw [← hH]; exact AH.gNs ((A.new _).new _) _
 clear hH
 refine (Form.l2Dec_a m.pc _ (by first | omega | (simp only [AH.zN, AH.zP] <;> omega)) (by omega)).mono ?_
 rintro r H1 ⟨rfl, hE1⟩
 have z1 := hE1.size
 have gc1 := (hE1.get _ (by omega)).trans gc
 have gs1 := (hE1.get _ (by omega)).trans gs
 have go1 := (hE1.get _ (by omega)).trans go
 have fr : ∀ {A2 : AH}, Ext A A2 → Ext A0 A2 ∧ A.size ≤ A2.size ∧ ∀ b, b < A.size → (s.nl = true ∨ b ≠ s.b) → A2.get b = A.get b := fun h => ⟨hE.trans h, h.size, fun b hb _ => h.get b hb⟩
 by_cases k1 : (prog.length : Int) ≤ m.pc
 ·have ht : stepS prog l m = .fin 2 (decS m.pc) m.steps := by unfold stepS tickR; rw [List.getElem?_eq_none (by omega)]
  rw [ht]
  simp (disch := first | omega | fail) only [amR Tryz.prog ro X, amS, seval, reduceCtorEq, ty3, ty4, ty9, ty22, ty56, ty58, ty106, ty195, gc1, gs1, go1, hclen, k1]
  refine (SpecM.l2End_a _ (by first | omega | (simp only [AH.zN, AH.zP] <;> omega)) s m.pc m.steps m.looks false 0 ⟨#[]⟩ false ⟨#[]⟩ false 2 (decS m.pc)).mono ?_
  rintro r A2 ⟨rfl, hE2⟩
  have z2 := hE2.size
  have go2 := (hE2.get (A.size + 2) (by omega)).trans go1
  simp (disch := first | omega | fail) only [amR Tryz.prog ro X, amS, seval, reduceCtorEq, ty3, ty4, ty9, ty22, ty56, ty58, ty106, ty195, sc, go2]
  exact ⟨_, rfl, ⟨s, m.pc, m.looks, false, ⟨#[]⟩, rfl⟩, fr (Ext.put (hEH.trans (hE1.trans hE2)) (by omega) _)⟩
 have hpl : m.pc < prog.length := by omega
 by_cases k2 : (m.steps : Int) = 2000
 ·have ht : stepS prog l m = .fin 3 ⟨#[]⟩ m.steps := by unfold stepS tickR; rw [List.getElem?_eq_getElem hpl]; simp only; rw [if_pos (by omega)]
  rw [ht]
  simp (disch := first | omega | fail) only [amR Tryz.prog ro X, amS, seval, reduceCtorEq, ty3, ty4, ty9, ty22, ty56, ty58, ty106, ty195, gc1, gs1, go1, hclen, k1, k2]
  refine (SpecM.l2End_a _ (by first | omega | (simp only [AH.zN, AH.zP] <;> omega)) s m.pc 2000 m.looks false 0 ⟨#[]⟩ false ⟨#[]⟩ false 3 ⟨#[]⟩).mono ?_
  rintro r A2 ⟨rfl, hE2⟩
  have z2 := hE2.size
  have go2 := (hE2.get (A.size + 2) (by omega)).trans go1
  have h2000 : m.steps = 2000 := by omega
  simp (disch := first | omega | fail) only [amR Tryz.prog ro X, amS, seval, reduceCtorEq, ty3, ty4, ty9, ty22, ty56, ty58, ty106, ty195, sc, go2]
  exact ⟨_, rfl, ⟨s, m.pc, m.looks, false, ⟨#[]⟩, by rw [h2000]; rfl⟩, fr (Ext.put (hEH.trans (hE1.trans hE2)) (by omega) _)⟩
 obtain ⟨n1, b1, i1, r1, q1⟩ := (hc.ext (hE.trans (hEH.trans hE1))).ins hpl
 have b0 : cs.b < A0.size := (hc.ins hpl).2.1
 simp (maxSteps := 2000000) (disch := first | omega | (simp only [AH.zN, AH.zP] <;> omega) | fail) only [amR Tryz.prog ro X, amS, seval, reduceCtorEq, ty3, ty4, ty9, ty22, ty56, ty58, ty106, ty195, gc1, gs1, go1, hclen, k1, k2, n1, b1, i1, r1]
 generalize hH2 : AH.put (AH.new (AH.put H1 _ _) _) _ _ = H2
 have z2 : H2.size = H1.size + 1 := by rw [← hH2]; rfl
 have hE2 : Ext A H2 := by rw [← hH2]; exact (by (repeat' (first | exact hEH.trans hE1 | refine Ext.put ?_ ?_ _ | refine Ext.trans ?_ (Ext.new _ _))) <;> omega)
 have gs2 : H2.get (A.size + 1) = .cells [.int .i64 m.pc, s.v, .int .i64 (m.steps + 1 : Nat), .int .i64 m.looks, .bool false, .int .i64 0, .string ⟨#[]⟩, .bool false, .string ⟨#[]⟩, .bool false] 10 := by rw [← hH2, AH.gPo (by omega), AH.gNo (by simp only [AH.zP]; omega)]; exact AH.gPs _ _ _
 have gx2 : H2.get H1.size = .cells [.int .i64 prog[m.pc].1, .string prog[m.pc].2.1, .int .i64 prog[m.pc].2.2] 3 := by rw [← hH2]; exact AH.gPs _ _ _
 have go2 := (show H2.get (A.size + 2) = H1.get (A.size + 2) by rw [← hH2, AH.gPo (by omega), AH.gNo (by simp only [AH.zP]; omega), AH.gPo (by omega)]).trans go1
 clear hH2
 have hI := hok.2.2 _ (List.getElem_mem hpl)
 refine (SpecM.l2Takes_a _ prog[m.pc].1 hI.1 hI.2.1).mono ?_
 rintro r H2 ⟨rfl, rfl⟩
 have hslen := hs.len
 have hsl := hm.st
 have hti : tickR prog m = if tooFew prog[m.pc] m.st then .fin 2 (decS m.pc) (m.steps + 1) else insR prog[m.pc] m := by unfold tickR; rw [List.getElem?_eq_getElem hpl]; simp only; rw [if_neg (by omega)]
 generalize prog[m.pc] = x at *
 obtain ⟨xo, xt, xn⟩ := x
 obtain ⟨ho1, ho2, hxt, hxn0, hxn1, hxk⟩ := hI
 simp only at ho1 ho2 hxt hxn0 hxn1 hxk gx2
 have hb : ∃ tk pt : Nat, opTake xo = tk ∧ opPut xo = pt ∧ tk ≤ 2 ∧ pt ≤ 2 := by
  rcases op_cases ho1 ho2 with rfl | rfl | rfl | rfl | rfl | rfl | rfl | rfl | rfl | rfl | rfl | rfl | rfl | rfl | rfl <;> exact ⟨_, _, rfl, rfl, by decide, by decide⟩
 obtain ⟨tk, pt, htk, hpt, htk2, hpt2⟩ := hb
 have hfew : tooFew (xo, xt, xn) m.st ↔ m.st.length < tk ∨ 50 < m.st.length - tk + pt := by unfold tooFew; simp only; rw [htk, hpt]; exact Iff.rfl
 by_cases k3 : (m.st.length : Int) < tk
 ·have ht : stepS prog l m = .fin 2 (decS m.pc) (m.steps + 1) := by unfold stepS; rw [hti, if_pos (hfew.2 (.inl (by omega)))]
  rw [ht]
  simp (disch := first | omega | fail) only [amR Tryz.prog ro X, amS, seval, reduceCtorEq, ty3, ty4, ty9, ty22, ty56, ty58, ty106, ty195, gs2, gx2, go2, htk, hpt, hslen, k3]
  refine (SpecM.l2End_a _ (by first | omega | (simp only [AH.zN, AH.zP] <;> omega)) s m.pc (m.steps + 1) m.looks false 0 ⟨#[]⟩ false ⟨#[]⟩ false 2 (decS m.pc)).mono ?_
  rintro r A2 ⟨rfl, hE3⟩
  have z3 := hE3.size
  have go3 := (hE3.get (A.size + 2) (by omega)).trans go2
  simp (disch := first | omega | fail) only [amR Tryz.prog ro X, amS, seval, reduceCtorEq, ty3, ty4, ty9, ty22, ty56, ty58, ty106, ty195, sc, go3]
  exact ⟨_, rfl, ⟨s, m.pc, m.looks, false, ⟨#[]⟩, rfl⟩, fr (Ext.put (hE2.trans hE3) (by omega) _)⟩
 by_cases k4 : (50 : Int) < m.st.length - tk + pt
 ·have ht : stepS prog l m = .fin 2 (decS m.pc) (m.steps + 1) := by unfold stepS; rw [hti, if_pos (hfew.2 (.inr (by omega)))]
  rw [ht]
  simp (disch := first | omega | fail) only [amR Tryz.prog ro X, amS, seval, reduceCtorEq, ty3, ty4, ty9, ty22, ty56, ty58, ty106, ty195, gs2, gx2, go2, htk, hpt, hslen, k3, k4]
  refine (SpecM.l2End_a _ (by first | omega | (simp only [AH.zN, AH.zP] <;> omega)) s m.pc (m.steps + 1) m.looks false 0 ⟨#[]⟩ false ⟨#[]⟩ false 2 (decS m.pc)).mono ?_
  rintro r A2 ⟨rfl, hE3⟩
  have z3 := hE3.size
  have go3 := (hE3.get (A.size + 2) (by omega)).trans go2
  simp (disch := first | omega | fail) only [amR Tryz.prog ro X, amS, seval, reduceCtorEq, ty3, ty4, ty9, ty22, ty56, ty58, ty106, ty195, sc, go3]
  exact ⟨_, rfl, ⟨s, m.pc, m.looks, false, ⟨#[]⟩, rfl⟩, fr (Ext.put (hE2.trans hE3) (by omega) _)⟩
 have htkl : tk ≤ m.st.length := by omega
 have hti' : tickR prog m = insR (xo, xt, xn) m := by rw [hti, if_neg (fun h => by rcases hfew.1 h with h | h <;> omega)]
 have hs2 := hs.ext hE2
 have hstop : 1 ≤ m.st.length → s.nl = false ∧ s.b < H2.size ∧ cellK (s.o + ((m.st.length : Int) - 1).toNat) (H2.get s.b) = some (.string (topA m.st)) := fun h => by
  obtain ⟨Fs, hF2, _⟩ := hs2.slr
  obtain ⟨n1, b1, _, _, c1, _⟩ := hF2.str (i := m.st.length - 1) (by omega)
  rw [aCell_eq] at c1
  refine ⟨n1, b1, ?_⟩
  rw [show ((m.st.length : Int) - 1).toNat = m.st.length - 1 by omega, c1, topA, List.getD_eq_getElem?_getD, List.getElem?_eq_getElem (by omega)]
  rfl
 have hstop2 : 2 ≤ m.st.length → s.nl = false ∧ s.b < H2.size ∧ cellK (s.o + ((m.st.length : Int) - 2).toNat) (H2.get s.b) = some (.string (topB m.st)) := fun h => by
  obtain ⟨Fs, hF2, _⟩ := hs2.slr
  obtain ⟨n1, b1, _, _, c1, _⟩ := hF2.str (i := m.st.length - 2) (by omega)
  rw [aCell_eq] at c1
  refine ⟨n1, b1, ?_⟩
  rw [show ((m.st.length : Int) - 2).toNat = m.st.length - 2 by omega, c1, topB, List.getD_eq_getElem?_getD, List.getElem?_eq_getElem (by omega)]
  rfl
 simp (disch := first | omega | fail) only [amR Tryz.prog ro X, amS, seval, reduceCtorEq, ty3, ty4, ty9, ty22, ty56, ty58, ty106, ty195, gs2, gx2, go2, htk, hpt, hslen, k3, k4]
 refine condCutN (fun e' A' => A' = H2 ∧ e' 2 = us.v ∧ e' 4 = .pointer (some ⟨A.size + 1, 0, none⟩) ∧ e' 6 = .pointer (some ⟨A.size + 2, 0, none⟩) ∧ e' 7 = .string (decS m.pc) ∧ e' 8 = .pointer (some ⟨H1.size, 0, none⟩) ∧ e' 9 = .int .i64 tk ∧ e' 10 = .int .i64 pt ∧ e' 11 = .string (takeA tk m.st) ∧ e' 12 = .string ⟨#[]⟩) ?_ ?_
 ·refine CondB.split (fun h => ?_) (fun h => ?_)
  ·have h1 : 0 < tk := by simpa using h
   obtain ⟨n1, b1, c1⟩ := hstop (by omega)
   have ha : takeA tk m.st = topA m.st := if_pos h1
   simp (disch := first | omega | fail) only [amR Tryz.prog ro X, amS, seval, reduceCtorEq, ty3, ty4, ty9, ty22, ty56, ty58, ty106, ty195, gs2, hslen, n1, b1, c1, ha]
  ·have h1 : ¬ 0 < tk := by simpa using h
   have ha : takeA tk m.st = ⟨#[]⟩ := if_neg h1
   simp (disch := first | omega | fail) only [amR Tryz.prog ro X, amS, seval, reduceCtorEq, ty3, ty4, ty9, ty22, ty56, ty58, ty106, ty195, ha]
 rintro e3 H3 ⟨rfl, f2, f4, f6, f7, f8, f9, f10, f11, f12⟩
 simp (disch := first | omega | fail) only [amR Tryz.prog ro X, amS, seval, reduceCtorEq, ty3, ty4, ty9, ty22, ty56, ty58, ty106, ty195, f2, f4, f6, f7, f8, f9, f10, f11, f12]
 refine condCutN (fun e' A' => A' = H3 ∧ e' 2 = us.v ∧ e' 4 = .pointer (some ⟨A.size + 1, 0, none⟩) ∧ e' 6 = .pointer (some ⟨A.size + 2, 0, none⟩) ∧ e' 7 = .string (decS m.pc) ∧ e' 8 = .pointer (some ⟨H1.size, 0, none⟩) ∧ e' 9 = .int .i64 tk ∧ e' 10 = .int .i64 pt ∧ e' 11 = .string (takeA tk m.st) ∧ e' 12 = .string (takeB tk m.st)) ?_ ?_
 ·refine CondB.split (fun h => ?_) (fun h => ?_)
  ·have h1 : 1 < tk := by simp at h; omega
   obtain ⟨n1, b1, c1⟩ := hstop2 (by omega)
   have ha : takeB tk m.st = topB m.st := if_pos h1
   simp (disch := first | omega | fail) only [amR Tryz.prog ro X, amS, seval, reduceCtorEq, ty3, ty4, ty9, ty22, ty56, ty58, ty106, ty195, f2, f4, f6, f7, f8, f9, f10, f11, gs2, hslen, n1, b1, c1, ha]
  ·have h1 : ¬ 1 < tk := by simp at h; omega
   have ha : takeB tk m.st = ⟨#[]⟩ := if_neg h1
   simp (disch := first | omega | fail) only [amR Tryz.prog ro X, amS, seval, reduceCtorEq, ty3, ty4, ty9, ty22, ty56, ty58, ty106, ty195, f2, f4, f6, f7, f8, f9, f10, f11, f12, ha]
 clear f2 f4 f6 f7 f8 f9 f10 f11 f12 hstop hstop2
 rintro e4 H4 ⟨rfl, f2, f4, f6, f7, f8, f9, f10, f11, f12⟩
 have hto : ∀ A' : AH, Ext H4 A' → ∃ s6 : Sl, (∀ k, aSlice Tryz.prog A' 22 s.v none (some (.int k ((m.st.length : Int) - tk))) none = some s6.v) ∧ Stk A0.size A' s6 (m.st.take (m.st.length - tk)) := fun A' hE' => by
  obtain ⟨s6, u1, u2, _, _⟩ := (hs2.ext hE').upto (P := Tryz.prog) (t := 22) (by simp only [ty22]) (i := m.st.length - tk) (by omega)
  exact ⟨s6, fun k => by rw [show ((m.st.length : Int) - tk) = ((m.st.length - tk : Nat) : Int) by omega]; exact u1 k, u2⟩
 generalize hH5 : H4.new (.cells [] 1) = H5
 have hE5 : Ext H4 H5 := by rw [← hH5]; exact Ext.new _ _
 have z5 : H5.size = H4.size + 1 := by rw [← hH5]; rfl
 have hemp : Stk H4.size H5 ⟨false, H4.size, 0, 0, 0⟩ [] := .inr ⟨rfl, Nat.le_refl _, by show H4.size < H5.size; omega, rfl, rfl, [], by rw [← hH5]; exact AH.gNs _ _, by decide, rfl, .inr ⟨Nat.le_refl _, Nat.le_refl _, by show 0 < BIG; decide⟩, by intro t ht; cases ht⟩
 obtain ⟨s6, u1, u2⟩ := hto H5 hE5
 obtain ⟨F6, hF6, _⟩ := u2.slr
 obtain ⟨vs, v1, v2⟩ := hF6.srcS
 obtain ⟨rs, H6, hap, w2, hE6, _⟩ := hemp.app (P := Tryz.prog) (ro := ro) (by omega) rfl (t := 22) (by simp only [ty22]) v1 (v2 _) (by simp only [List.length_nil]; rw [List.length_take]; have := hm.st; omega)
 have z6 := hE6.size
 have hE46 := hE5.trans hE6
 have gs6 := (hE46.get (A.size + 1) (by omega)).trans gs2
 have gx6 := (hE46.get H1.size (by omega)).trans gx2
 have go6 := (hE46.get (A.size + 2) (by omega)).trans go2
 have gs5 := (hE5.get (A.size + 1) (by omega)).trans gs2
 simp (disch := first | omega | fail) only [amR Tryz.prog ro X, amS, seval, reduceCtorEq, ty3, ty4, ty9, ty22, ty56, ty58, ty106, ty195, f2, f4, f6, f7, f8, f9, f10, f11, f12, gs5, hslen, hH5, u1, hap, gs6, gx6]
 generalize hH7 : H6.put (A.size + 1) _ = H7
 have z7 : H7.size = H6.size := by rw [← hH7]; rfl
 have hf7 : ∀ b, b ≠ A.size + 1 → H7.get b = H6.get b := fun b hb => by rw [← hH7]; exact AH.gPo hb
 have gs7 : H7.get (A.size + 1) = .cells [.int .i64 ((m.pc + 1 : Nat) : Int), s.v, .int .i64 (m.steps + 1 : Nat), .int .i64 m.looks, .bool false, .int .i64 0, .string ⟨#[]⟩, .bool false, .string ⟨#[]⟩, .bool false] 10 := by rw [← hH7]; exact AH.gPs _ _ _
 have gx7 := (hf7 H1.size (by omega)).trans gx6
 have go7 := (hf7 (A.size + 2) (by omega)).trans go6
 have hE7 : Ext A H7 := by rw [← hH7]; exact (hE2.trans hE46).put (by omega) _
 have hrb : rs.nl = false → H4.size ≤ rs.b := fun h => by
  rcases w2 with ⟨rfl, _⟩ | ⟨_, h, _⟩
  ·cases h
  ·exact h
 have w7 : Stk H4.size H7 rs (m.st.take (m.st.length - tk)) := by
  have := w2.frame (A' := H7) (by omega) (fun h => hf7 _ (by have := hrb h; omega))
  simpa using this
 clear hH7 hH5 gs6 gx6 go6 gs5 hap hemp u1 u2 hto
 obtain ⟨n, rfl⟩ := Int.eq_ofNat_of_zero_le hxn0
 have hnz : n ≤ 2000 := by
  have h2 : mostN xo ≤ 2000 := by unfold mostN; split; omega; split <;> omega
  omega
 refine condCut (fun e' A' => e' 4 = .pointer (some ⟨A.size + 1, 0, none⟩) ∧ e' 6 = .pointer (some ⟨A.size + 2, 0, none⟩) ∧ e' 7 = .string (decS m.pc) ∧ e' 8 = .pointer (some ⟨H1.size, 0, none⟩) ∧ e' 10 = .int .i64 pt ∧ e' 11 = .string (takeA tk m.st) ∧ e' 12 = .string (takeB tk m.st) ∧ e' 13 = rs.v ∧ xo ≤ 11 ∧ ∃ nx : Nat, PlainOk (xo, xt, (n : Int)) m nx ∧ A'.size = H7.size ∧ (∀ b, b ≠ A.size + 1 → A'.get b = H7.get b) ∧ A'.get (A.size + 1) = .cells [.int .i64 nx, s.v, .int .i64 (m.steps + 1 : Nat), .int .i64 m.looks, .bool false, .int .i64 0, .string ⟨#[]⟩, .bool false, .string ⟨#[]⟩, .bool false] 10) ?_ ?_
 ·clear hti hfew k1 k3 k4
  rcases op_cases ho1 ho2 with rfl | rfl | rfl | rfl | rfl | rfl | rfl | rfl | rfl | rfl | rfl | rfl | rfl | rfl | rfl
  ·simp (disch := first | omega | fail) only [amR Tryz.prog ro X, amS, seval, reduceCtorEq, ty3, ty4, ty9, ty22, ty56, ty58, ty106, ty195, f2, f4, f6, f7, f8, f10, f11, f12]
   exact ⟨m.pc + 1, PlainOk.plain (x := (1, xt, (n : Int))) ⟨ho1, by show (1 : Int) ≤ 9; decide⟩, fun _ _ => trivial, gs7⟩
  ·simp (disch := first | omega | fail) only [amR Tryz.prog ro X, amS, seval, reduceCtorEq, ty3, ty4, ty9, ty22, ty56, ty58, ty106, ty195, f2, f4, f6, f7, f8, f10, f11, f12]
   exact ⟨m.pc + 1, PlainOk.plain (x := (2, xt, (n : Int))) ⟨ho1, by show (2 : Int) ≤ 9; decide⟩, fun _ _ => trivial, gs7⟩
  ·simp (disch := first | omega | fail) only [amR Tryz.prog ro X, amS, seval, reduceCtorEq, ty3, ty4, ty9, ty22, ty56, ty58, ty106, ty195, f2, f4, f6, f7, f8, f10, f11, f12]
   exact ⟨m.pc + 1, PlainOk.plain (x := (3, xt, (n : Int))) ⟨ho1, by show (3 : Int) ≤ 9; decide⟩, fun _ _ => trivial, gs7⟩
  ·simp (disch := first | omega | fail) only [amR Tryz.prog ro X, amS, seval, reduceCtorEq, ty3, ty4, ty9, ty22, ty56, ty58, ty106, ty195, f2, f4, f6, f7, f8, f10, f11, f12]
   exact ⟨m.pc + 1, PlainOk.plain (x := (4, xt, (n : Int))) ⟨ho1, by show (4 : Int) ≤ 9; decide⟩, fun _ _ => trivial, gs7⟩
  ·simp (disch := first | omega | fail) only [amR Tryz.prog ro X, amS, seval, reduceCtorEq, ty3, ty4, ty9, ty22, ty56, ty58, ty106, ty195, f2, f4, f6, f7, f8, f10, f11, f12]
   exact ⟨m.pc + 1, PlainOk.plain (x := (5, xt, (n : Int))) ⟨ho1, by show (5 : Int) ≤ 9; decide⟩, fun _ _ => trivial, gs7⟩
  ·simp (disch := first | omega | fail) only [amR Tryz.prog ro X, amS, seval, reduceCtorEq, ty3, ty4, ty9, ty22, ty56, ty58, ty106, ty195, f2, f4, f6, f7, f8, f10, f11, f12]
   exact ⟨m.pc + 1, PlainOk.plain (x := (6, xt, (n : Int))) ⟨ho1, by show (6 : Int) ≤ 9; decide⟩, fun _ _ => trivial, gs7⟩
  ·simp (disch := first | omega | fail) only [amR Tryz.prog ro X, amS, seval, reduceCtorEq, ty3, ty4, ty9, ty22, ty56, ty58, ty106, ty195, f2, f4, f6, f7, f8, f10, f11, f12]
   exact ⟨m.pc + 1, PlainOk.plain (x := (7, xt, (n : Int))) ⟨ho1, by show (7 : Int) ≤ 9; decide⟩, fun _ _ => trivial, gs7⟩
  ·simp (disch := first | omega | fail) only [amR Tryz.prog ro X, amS, seval, reduceCtorEq, ty3, ty4, ty9, ty22, ty56, ty58, ty106, ty195, f2, f4, f6, f7, f8, f10, f11, f12]
   exact ⟨m.pc + 1, PlainOk.plain (x := (8, xt, (n : Int))) ⟨ho1, by show (8 : Int) ≤ 9; decide⟩, fun _ _ => trivial, gs7⟩
  ·simp (disch := first | omega | fail) only [amR Tryz.prog ro X, amS, seval, reduceCtorEq, ty3, ty4, ty9, ty22, ty56, ty58, ty106, ty195, f2, f4, f6, f7, f8, f10, f11, f12]
   exact ⟨m.pc + 1, PlainOk.plain (x := (9, xt, (n : Int))) ⟨ho1, by show (9 : Int) ≤ 9; decide⟩, fun _ _ => trivial, gs7⟩
  ·simp (disch := first | omega | fail) only [amR Tryz.prog ro X, amS, seval, reduceCtorEq, ty3, ty4, ty9, ty22, ty56, ty58, ty106, ty195, f2, f4, f6, f7, f8, f10, f11, f12, gs7, gx7]
   exact ⟨n, PlainOk.jump (.inl rfl) rfl, fun b hb => AH.gPo hb, rfl⟩
  ·obtain rfl : tk = 1 := by have h : opTake 11 = 1 := rfl; omega
   have ha : takeA 1 m.st = topA m.st := rfl
   by_cases j1 : topA m.st = ⟨#[]⟩
   ·simp (disch := first | omega | fail) only [amR Tryz.prog ro X, amS, seval, reduceCtorEq, ty3, ty4, ty9, ty22, ty56, ty58, ty106, ty195, f2, f4, f6, f7, f8, f10, f11, f12, gs7, gx7, ha, j1]
    exact ⟨n, PlainOk.jump (.inr rfl) (by show Tick.go ⟨if _ then _ else _, _, _, _⟩ = _; rw [if_pos (.inl j1)]; rfl), fun b hb => AH.gPo hb, rfl⟩
   ·by_cases j2 : topA m.st = ⟨#[48]⟩
    ·have j3 : ¬ ((⟨#[48]⟩ : ByteArray) = ⟨#[]⟩) := by rw [← j2]; exact j1
     simp (disch := first | omega | fail) only [amR Tryz.prog ro X, amS, seval, reduceCtorEq, ty3, ty4, ty9, ty22, ty56, ty58, ty106, ty195, f2, f4, f6, f7, f8, f10, f11, f12, gs7, gx7, ha, j2, j3]
     exact ⟨n, PlainOk.jump (.inr rfl) (by show Tick.go ⟨if _ then _ else _, _, _, _⟩ = _; rw [if_pos (.inr j2)]; rfl), fun b hb => AH.gPo hb, rfl⟩
    ·simp (disch := first | omega | fail) only [amR Tryz.prog ro X, amS, seval, reduceCtorEq, ty3, ty4, ty9, ty22, ty56, ty58, ty106, ty195, f2, f4, f6, f7, f8, f10, f11, f12, gs7, gx7, ha, j1, j2]
     exact ⟨m.pc + 1, PlainOk.jump (.inr rfl) (by show Tick.go ⟨if _ then _ else _, _, _, _⟩ = _; rw [if_neg (by rintro (h | h); exact j1 h; exact j2 h)]), fun _ _ => trivial, rfl⟩
  ·obtain rfl : tk = 1 := by have h : opTake 12 = 1 := rfl; omega
   have ha : takeA 1 m.st = topA m.st := rfl
   simp (disch := first | omega | fail) only [amR Tryz.prog ro X, amS, seval, reduceCtorEq, ty3, ty4, ty9, ty22, ty56, ty58, ty106, ty195, f2, f4, f6, f7, f8, f10, f11, f12, gs7, gx7, ha]
   generalize hH8 : H7.put (A.size + 1) _ = H8
   have z8 : H8.size = H7.size := by rw [← hH8]; rfl
   have hf8 : ∀ b, b ≠ A.size + 1 → H8.get b = H7.get b := fun b hb => by rw [← hH8]; exact AH.gPo hb
   have gs8 : H8.get (A.size + 1) = .cells [.int .i64 ((m.pc + 1 : Nat) : Int), rs.v, .int .i64 (m.steps + 1 : Nat), .int .i64 m.looks, .bool false, .int .i64 0, .string ⟨#[]⟩, .bool false, .string ⟨#[]⟩, .bool false] 10 := by rw [← hH8]; exact AH.gPs _ _ _
   have gx8 := (hf8 H1.size (by omega)).trans gx7
   have go8 := (hf8 (A.size + 2) (by omega)).trans go7
   have hE8 : Ext A H8 := by rw [← hH8]; exact hE7.put (by omega) _
   clear hH8
   have w8 : Stk H4.size H8 rs (m.st.take (m.st.length - 1)) := w7.frame (by omega) (fun h => hf8 _ (by have := hrb h; omega))
   have hpl200 := hok.2.1
   have hm8 : MachOk ⟨m.pc + 1, m.st.take (m.st.length - 1), m.steps + 1, m.looks⟩ := ⟨by show m.pc + 1 ≤ 200; omega, by show (m.st.take _).length ≤ 50; rw [List.length_take]; omega, fun s hs => hm.txt s (List.mem_of_mem_take hs), by show m.steps + 1 ≤ 2000; omega, hm.looks⟩
   refine (SpecL.l2Look_a A0 H8 hro (hE.trans hE8) us l G hu hl 12 (by decide) xt n ⟨m.pc + 1, m.st.take (m.st.length - 1), m.steps + 1, m.looks⟩ hm8 rs (w8.lo (by omega)) (by show (m.st.take _).length < 50; rw [List.length_take]; omega) (topA m.st) (decS m.pc)).mono ?_
   rintro r A9 ⟨v, rfl, hv, hE9, z9, hfr9⟩
   have hrs : ∀ b, b < H4.size → rs.nl = true ∨ b ≠ rs.b := fun b hb => by
    cases hn : rs.nl
    ·exact .inr (by have := hrb hn; omega)
    ·exact .inl rfl
   have go9 := (hfr9 (A.size + 2) (by omega) (hrs _ (by omega))).trans go8
   have hres := stepS_look (p := prog) (l := l) (m := m) (a := true) (n := topA m.st) (m' := ⟨m.pc + 1, m.st.take (m.st.length - 1), m.steps + 1, m.looks⟩) rfl hti'
   have hv2 : StR A0.size A9 (stepS prog l m) v := by rw [← hres]; exact hv
   obtain ⟨q1, q2, q3, q4, q5, q6, q7, q8, q9, q10, rfl⟩ := StR_sc hv2
   simp (disch := first | omega | fail) only [amR Tryz.prog ro X, amS, seval, reduceCtorEq, ty3, ty4, ty9, ty22, ty56, ty58, ty106, ty195, sc, f6, go9]
   refine ⟨_, rfl, StR_put hv2 go9 _, ⟨(by first | omega | (simp only [AH.zN, AH.zP] <;> omega)), fun b hb => ?_⟩, (by first | omega | (simp only [AH.zN, AH.zP] <;> omega)), fun b hb _ => ?_⟩
   ·rw [AH.gPo (by omega)]; exact hE9.get b hb
   ·rw [AH.gPo (by omega)]; exact (hfr9 b (by omega) (hrs b (by omega))).trans (hE8.get b hb)
  ·obtain rfl : tk = 1 := by have h : opTake 13 = 1 := rfl; omega
   have ha : takeA 1 m.st = topA m.st := rfl
   simp (disch := first | omega | fail) only [amR Tryz.prog ro X, amS, seval, reduceCtorEq, ty3, ty4, ty9, ty22, ty56, ty58, ty106, ty195, f2, f4, f6, f7, f8, f10, f11, f12, gs7, gx7, ha]
   generalize hH8 : H7.put (A.size + 1) _ = H8
   have z8 : H8.size = H7.size := by rw [← hH8]; rfl
   have hf8 : ∀ b, b ≠ A.size + 1 → H8.get b = H7.get b := fun b hb => by rw [← hH8]; exact AH.gPo hb
   have gs8 : H8.get (A.size + 1) = .cells [.int .i64 ((m.pc + 1 : Nat) : Int), rs.v, .int .i64 (m.steps + 1 : Nat), .int .i64 m.looks, .bool false, .int .i64 0, .string ⟨#[]⟩, .bool false, .string ⟨#[]⟩, .bool false] 10 := by rw [← hH8]; exact AH.gPs _ _ _
   have gx8 := (hf8 H1.size (by omega)).trans gx7
   have go8 := (hf8 (A.size + 2) (by omega)).trans go7
   have hE8 : Ext A H8 := by rw [← hH8]; exact hE7.put (by omega) _
   clear hH8
   have w8 : Stk H4.size H8 rs (m.st.take (m.st.length - 1)) := w7.frame (by omega) (fun h => hf8 _ (by have := hrb h; omega))
   have hpl200 := hok.2.1
   have hm8 : MachOk ⟨m.pc + 1, m.st.take (m.st.length - 1), m.steps + 1, m.looks⟩ := ⟨by show m.pc + 1 ≤ 200; omega, by show (m.st.take _).length ≤ 50; rw [List.length_take]; omega, fun s hs => hm.txt s (List.mem_of_mem_take hs), by show m.steps + 1 ≤ 2000; omega, hm.looks⟩
   refine (SpecL.l2Look_a A0 H8 hro (hE.trans hE8) us l G hu hl 13 (by decide) xt n ⟨m.pc + 1, m.st.take (m.st.length - 1), m.steps + 1, m.looks⟩ hm8 rs (w8.lo (by omega)) (by show (m.st.take _).length < 50; rw [List.length_take]; omega) (topA m.st) (decS m.pc)).mono ?_
   rintro r A9 ⟨v, rfl, hv, hE9, z9, hfr9⟩
   have hrs : ∀ b, b < H4.size → rs.nl = true ∨ b ≠ rs.b := fun b hb => by
    cases hn : rs.nl
    ·exact .inr (by have := hrb hn; omega)
    ·exact .inl rfl
   have go9 := (hfr9 (A.size + 2) (by omega) (hrs _ (by omega))).trans go8
   have hres := stepS_look (p := prog) (l := l) (m := m) (a := false) (n := topA m.st) (m' := ⟨m.pc + 1, m.st.take (m.st.length - 1), m.steps + 1, m.looks⟩) rfl hti'
   have hv2 : StR A0.size A9 (stepS prog l m) v := by rw [← hres]; exact hv
   obtain ⟨q1, q2, q3, q4, q5, q6, q7, q8, q9, q10, rfl⟩ := StR_sc hv2
   simp (disch := first | omega | fail) only [amR Tryz.prog ro X, amS, seval, reduceCtorEq, ty3, ty4, ty9, ty22, ty56, ty58, ty106, ty195, sc, f6, go9]
   refine ⟨_, rfl, StR_put hv2 go9 _, ⟨(by first | omega | (simp only [AH.zN, AH.zP] <;> omega)), fun b hb => ?_⟩, (by first | omega | (simp only [AH.zN, AH.zP] <;> omega)), fun b hb _ => ?_⟩
   ·rw [AH.gPo (by omega)]; exact hE9.get b hb
   ·rw [AH.gPo (by omega)]; exact (hfr9 b (by omega) (hrs b (by omega))).trans (hE8.get b hb)
  ·obtain rfl : tk = 1 := by have h : opTake 14 = 1 := rfl; omega
   have ha : takeA 1 m.st = topA m.st := rfl
   have ht : stepS prog l m = .fin 1 (topA m.st) (m.steps + 1) := by unfold stepS; rw [hti']; rfl
   rw [ht]
   simp (disch := first | omega | fail) only [amR Tryz.prog ro X, amS, seval, reduceCtorEq, ty3, ty4, ty9, ty22, ty56, ty58, ty106, ty195, f2, f4, f6, f7, f8, f10, f11, f12, gs7, ha]
   refine (SpecM.l2End_a _ (by first | omega | (simp only [AH.zN, AH.zP] <;> omega)) s (m.pc + 1) (m.steps + 1) m.looks false 0 ⟨#[]⟩ false ⟨#[]⟩ false 1 (topA m.st)).mono ?_
   rintro r A2 ⟨rfl, hE8⟩
   have z8 := hE8.size
   have go8 := (hE8.get (A.size + 2) (by omega)).trans go7
   simp (disch := first | omega | fail) only [amR Tryz.prog ro X, amS, seval, reduceCtorEq, ty3, ty4, ty9, ty22, ty56, ty58, ty106, ty195, sc, f6, go8]
   exact ⟨_, rfl, ⟨s, m.pc + 1, m.looks, false, ⟨#[]⟩, rfl⟩, fr (Ext.put (hE7.trans hE8) (by omega) _)⟩
  ·obtain rfl : tk = 1 := by have h : opTake 15 = 1 := rfl; omega
   have ha : takeA 1 m.st = topA m.st := rfl
   have ht : stepS prog l m = .fin 0 (topA m.st) (m.steps + 1) := by unfold stepS; rw [hti']; rfl
   rw [ht]
   simp (disch := first | omega | fail) only [amR Tryz.prog ro X, amS, seval, reduceCtorEq, ty3, ty4, ty9, ty22, ty56, ty58, ty106, ty195, f2, f4, f6, f7, f8, f10, f11, f12, gs7, ha]
   refine (SpecM.l2End_a _ (by first | omega | (simp only [AH.zN, AH.zP] <;> omega)) s (m.pc + 1) (m.steps + 1) m.looks false 0 ⟨#[]⟩ false ⟨#[]⟩ false 0 (topA m.st)).mono ?_
   rintro r A2 ⟨rfl, hE8⟩
   have z8 := hE8.size
   have go8 := (hE8.get (A.size + 2) (by omega)).trans go7
   simp (disch := first | omega | fail) only [amR Tryz.prog ro X, amS, seval, reduceCtorEq, ty3, ty4, ty9, ty22, ty56, ty58, ty106, ty195, sc, f6, go8]
   exact ⟨_, rfl, ⟨s, m.pc + 1, m.looks, false, ⟨#[]⟩, rfl⟩, fr (Ext.put (hE7.trans hE8) (by omega) _)⟩
 rintro e5 H8 ⟨f4, f6, f7, f8, f10, f11, f12, f13, h11, nx, hplain, z8, hf8, gs8⟩
 have gx8 := (hf8 H1.size (by omega)).trans gx7
 have go8 := (hf8 (A.size + 2) (by omega)).trans go7
 have hE8 : Ext A H8 := ⟨by have := hE7.size; omega, fun b hb => (hf8 b (by omega)).trans (hE7.get b hb)⟩
 have w8 : Stk H4.size H8 rs (m.st.take (m.st.length - tk)) := w7.frame (by omega) (fun h => hf8 _ (by have := hrb h; omega))
 clear f2 gs7 gx7 go7 hf7 hf8
 have hplt := plainR_take (x := (xo, xt, (n : Int))) ho1 h11 htk m.st
 have hpll := plainR_put (x := (xo, xt, (n : Int))) ho1 h11 hpt (topA m.st) (topB m.st)
 have hza := takeA_mem htkl hm.txt
 have hzb := takeB_mem htkl hm.txt
 have hrest : restR (xo, xt, (n : Int)) m.st = m.st.take (m.st.length - tk) := by unfold restR; rw [htk]; rfl
 unfold PlainOk at hplain
 rw [hrest] at hplain
 generalize hout : plainR (xo, xt, (n : Int)) (topA m.st) (topB m.st) = out at hplt hpll hplain
 simp (disch := first | omega | fail) only [amR Tryz.prog ro X, amS, seval, reduceCtorEq, ty3, ty4, ty9, ty22, ty56, ty58, ty106, ty195, f4, f6, f7, f8, f10, f11, f12, f13]
 refine Wp.loopC (fun k e A' => e 4 = .pointer (some ⟨A.size + 1, 0, none⟩) ∧ e 6 = .pointer (some ⟨A.size + 2, 0, none⟩) ∧ e 7 = .string (decS m.pc) ∧ e 8 = .pointer (some ⟨H1.size, 0, none⟩) ∧ e 10 = .int .i64 pt ∧ e 11 = .string (takeA tk m.st) ∧ e 12 = .string (takeB tk m.st) ∧ H8.size ≤ A'.size ∧ (∀ b, b < H4.size → A'.get b = H8.get b) ∧ ∃ j : Nat, k = pt - j ∧ j ≤ pt ∧ e 14 = .int .i64 j ∧ (∀ t ∈ out.take j, t.size ≤ 2000) ∧ ∃ rj : Sl, e 13 = rj.v ∧ Stk H4.size A' rj (m.st.take (m.st.length - tk) ++ out.take j)) (pt - 0) ?_ ?_
 ·simp (disch := first | omega | fail) only [amV, amH, amQ, amL, amN Tryz.prog, amS, seval, reduceCtorEq, ty3, ty4, ty9, ty22, ty56, ty58, ty106, ty195, f4, f6, f7, f8, f10, f11, f12, f13]
  exact ⟨fun _ _ => trivial, 0, rfl, by omega, rfl, by simp, rs, rfl, by simpa using w8⟩
 clear f4 f6 f7 f8 f10 f11 f12 f13
 rintro k e A' ⟨f4, f6, f7, f8, f10, f11, f12, zA', hfA, j, rfl, hj, f14, hall, rj, f13, wj⟩
 have hEA' : Ext A A' := ⟨by omega, fun b hb => (hfA b (by omega)).trans (hE8.get b hb)⟩
 have gsA := (hfA (A.size + 1) (by omega)).trans gs8
 have gxA := (hfA H1.size (by omega)).trans gx8
 have goA := (hfA (A.size + 2) (by omega)).trans go8
 simp (disch := first | omega | fail) only [amR Tryz.prog ro X, amS, seval, reduceCtorEq, ty3, ty4, ty9, ty22, ty56, ty58, ty106, ty195, f10, f14]
 refine CondB.split (fun h => ?_) (fun h => ?_)
 ·have hjl : j < out.length := by simp at h; omega
  simp (disch := first | omega | fail) only [amR Tryz.prog ro X, amS, seval, reduceCtorEq, ty3, ty4, ty9, ty22, ty56, ty58, ty106, ty195, f4, f6, f7, f8, f11, f12, f14, gxA]
  refine (SpecM.l2Plain_a A' (by first | omega | (simp only [AH.zN, AH.zP] <;> omega)) xo ho1 ho2 xt hxt n hnz _ _ hza hzb).mono ?_
  rintro r A2 ⟨u, rfl, ⟨Fu, hFu⟩, hE9⟩
  rw [hplt] at hFu
  have z9 := hE9.size
  obtain ⟨n1, b1, _, i1, c1, q1⟩ := hFu.str hjl
  rw [aCell_eq] at c1
  have gs9 := (hE9.get (A.size + 1) (by omega)).trans gsA
  have go9 := (hE9.get (A.size + 2) (by omega)).trans goA
  by_cases j1 : (2000 : Int) < out[j].size
  ·have ht : stepS prog l m = .fin 2 (decS m.pc) (m.steps + 1) := by unfold stepS; rw [hti', hplain, if_neg (fun h => by have := h out[j] (List.getElem_mem hjl); omega)]
   rw [ht]
   simp (disch := first | omega | fail) only [amR Tryz.prog ro X, amS, seval, reduceCtorEq, ty3, ty4, ty9, ty22, ty56, ty58, ty106, ty195, f4, f6, f7, f14, n1, b1, i1, c1, j1, gs9]
   refine (SpecM.l2End_a _ (by first | omega | (simp only [AH.zN, AH.zP] <;> omega)) s nx (m.steps + 1) m.looks false 0 ⟨#[]⟩ false ⟨#[]⟩ false 2 (decS m.pc)).mono ?_
   rintro r A3 ⟨rfl, hE10⟩
   have z10 := hE10.size
   have go10 := (hE10.get (A.size + 2) (by omega)).trans go9
   simp (disch := first | omega | fail) only [amR Tryz.prog ro X, amS, seval, reduceCtorEq, ty3, ty4, ty9, ty22, ty56, ty58, ty106, ty195, sc, f6, go10]
   exact ⟨_, rfl, ⟨s, nx, m.looks, false, ⟨#[]⟩, rfl⟩, fr (Ext.put (hEA'.trans (hE9.trans hE10)) (by omega) _)⟩
  ·obtain ⟨r1, A3, h1, h2, h3, h4, h5, h6⟩ := ((wj.ext hE9).ext (Ext.new A2 (.cells [.string out[j]] 1))).push (P := Tryz.prog) (ro := ro) (by omega) (by simp only [AH.zN]; omega) (t := 22) (by simp only [ty22]) (x := Sl.v ⟨false, A2.size, 0, 1, 1⟩) (v := out[j]) (by simp [Sl.v, aSource, aRow_eq, AH.gNs, rowK]) q1 (by rw [List.length_append, List.length_take, List.length_take]; omega)
   simp only [AH.zN] at h3
   have hrj : rj.nl = false → H4.size ≤ rj.b := fun h => by
    rcases wj with ⟨rfl, _⟩ | ⟨_, h', _⟩
    ·cases h
    ·exact h'
   have hf3 : ∀ b, b < H4.size → A3.get b = H8.get b := fun b hb => by
    rw [h4 b (by simp only [AH.zN]; omega) (by cases hn : rj.nl; exact .inr (by have := hrj hn; omega); exact .inl rfl), AH.gNo (by omega), hE9.get b (by omega)]
    exact hfA b hb
   simp (disch := first | omega | fail) only [amR Tryz.prog ro X, amS, seval, reduceCtorEq, ty3, ty4, ty9, ty22, ty56, ty58, ty106, ty195, f4, f6, f7, f8, f10, f11, f12, f13, f14, n1, b1, i1, c1, j1, h1]
   refine ⟨pt - (j + 1), by omega, (by first | omega | (simp only [AH.zN, AH.zP] <;> omega)), hf3, j + 1, rfl, by omega, by simp, (all_take_succ hjl).2 ⟨hall, by omega⟩, r1, rfl, ?_⟩
   rw [List.take_add_one, List.getElem?_eq_getElem hjl, ← List.append_assoc]
   exact h2
 ·have hjl : j = out.length := by simp at h; omega
  subst hjl
  rw [List.take_of_length_le (Nat.le_refl _)] at hall wj
  have ht : stepS prog l m = .go ⟨nx, m.st.take (m.st.length - tk) ++ out, m.steps + 1, m.looks⟩ := by unfold stepS; rw [hti', hplain, if_pos hall]
  rw [ht]
  simp (disch := first | omega | fail) only [amR Tryz.prog ro X, amS, seval, reduceCtorEq, ty3, ty4, ty9, ty22, ty56, ty58, ty106, ty195, f4, f6, f13, gsA, goA]
  refine ⟨_, rfl, ⟨rj, rfl, (wj.lo (by omega)).frame (Nat.le_refl _) (fun hn => ?_)⟩, ⟨(by first | omega | (simp only [AH.zN, AH.zP] <;> omega)), fun b hb => ?_⟩, (by first | omega | (simp only [AH.zN, AH.zP] <;> omega)), fun b hb _ => ?_⟩
  ·have hb : H4.size ≤ rj.b := by
    rcases wj with ⟨rfl, _⟩ | ⟨_, h', _⟩
    ·cases hn
    ·exact h'
   rw [AH.gPo (by omega), AH.gPo (by omega)]
  ·rw [AH.gPo (by omega), AH.gPo (by omega)]
   exact (hE.trans hEA').get b hb
  ·rw [AH.gPo (by omega), AH.gPo (by omega)]
   exact hEA'.get b hb
end Go.Proofs.YtmelgjblkmbhjaaGreatDoor.Amu.SpecT
