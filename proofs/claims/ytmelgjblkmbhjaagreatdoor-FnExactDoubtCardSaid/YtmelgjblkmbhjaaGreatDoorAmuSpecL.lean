import Derived.Test.YtmelgjblkmbhjaaGreatDoorAmuTy
import Derived.Test.YtmelgjblkmbhjaaGreatDoorAmRun
import Derived.Test.YtmelgjblkmbhjaaGreatDoorAmuSpecM
import Derived.Test.YtmelgjblkmbhjaaGreatDoorAmuTurn
namespace Go.Proofs.YtmelgjblkmbhjaaGreatDoor.Amu.SpecL
open Go Go.AM Go.Proofs
set_option linter.all false
open Ty
variable {ro : Nat} {X : FuncId → List Value → AH → ARes → AH → Prop}
set_option maxRecDepth 10000
open SpecM (sc)
theorem row_rep {A : AH} {s : Sl} {l : List TReply} {F : List Nat} (h : SlR A s l F) {i : Nat} (hi : i < l.length) : s.nl = false ∧ s.b < A.size ∧ i < s.len ∧
 rowK (s.o + i * 3) 3 (A.get s.b) = some [.bool l[i].1, .int .i64 l[i].2.1, .string l[i].2.2] ∧ l[i].2.2.size < 4611686018427387904 := by
 obtain ⟨n1, b1, m1, i1, cs, Fi, c1, q1, _⟩ := h.row hi
 rw [aRow_eq] at c1
 obtain ⟨rfl, _, z⟩ := rep_Reply.1 q1
 exact ⟨n1, b1, i1, c1, big_lt z⟩
def StR (lo : Nat) (A : AH) (t : Tick) (v : Value) : Prop :=
 match t with
 | .go m => ∃ s, v = sc s m.pc m.steps m.looks false 0 ⟨#[]⟩ false ⟨#[]⟩ false ∧ Stk lo A s m.st
 | .fin c t st => ∃ s pc lk ask nm, v = sc s pc st lk true c t ask nm false
 | .look a n m => ∃ s pc lk, v = sc s pc m.steps lk false 0 ⟨#[]⟩ a n true
theorem l2Look_a (A0 A : AH) (hro : ro ≤ A0.size) (hE : Ext A0 A) (us : Sl) (l : List TReply) (G : List Nat) (hu : SlR A0 us l G) (hl : ∀ r ∈ l, r.2.2.size ≤ 2000) (o : Int) (ho : o = 12 ∨ o = 13) (xt : ByteArray) (n : Int) (m : Mach) (hm : MachOk m) (s : Sl) (hs : Stk A0.size A s m.st) (hl50 : m.st.length < 50) (nm w : ByteArray) :
 ACalls Tryz.prog ro X 162 [.agg #[.int .i64 o, .string xt, .int .i64 n], sc s m.pc m.steps m.looks false 0 ⟨#[]⟩ false ⟨#[]⟩ false, .string nm, .string w, us.v] A (fun r A' => ∃ v, r = .ret v ∧ StR A0.size A' (if ¬ NameOk nm then .fin 2 w m.steps else if m.looks = 200 then .fin 3 ⟨#[]⟩ m.steps else match l[m.looks]? with | none => .look (decide (o = 12)) nm ⟨m.pc, m.st, m.steps, m.looks + 1⟩ | some r => toldS (decide (o = 12)) nm ⟨m.pc, m.st, m.steps, m.looks + 1⟩ r) v ∧ Ext A0 A' ∧ A.size ≤ A'.size ∧ ∀ b, b < A.size → (s.nl = true ∨ b ≠ s.b) → A'.get b = A.get b) := by
 have zE := hE.size
 have hulen := hu.len
 have hlk := hm.looks
 refine ACalls.enterQ (rs := [.cell 10 195]) Tryz.func162 rfl (by kernel_rfl) rfl ?_
 unfold sc
 simp (maxSteps := 2000000) (disch := first | omega | (simp only [AH.zN, AH.zP] <;> omega) | fail) only [amR Tryz.prog ro X, amS, seval, reduceCtorEq, ty3, ty4, ty9, ty22, ty106, ty120, ty126, ty195]
 generalize hH : AH.new (AH.new (AH.new A _) _) _ = H
 have zH : H.size = A.size + 3 := by rw [← hH]; rfl
 have hEH : Ext A H := by rw [← hH]; exact (by ((repeat' (first | exact Ext.refl _ | assumption | refine Ext.trans ?_ (Ext.new _ _) | refine Ext.put ?_ ?_ _ | refine Ext.trans ?_ (by assumption))) <;> (first | omega | (simp only [AH.zN, AH.zP] <;> omega))))
 have gi : H.get A.size = .cells [.int .i64 o, .string xt, .int .i64 n] 3 := by rw [← hH, AH.gNo (by simp only [AH.zN]; omega), AH.gNo (by simp only [AH.zN]; omega)]; exact AH.gNs _ _
 have gs : H.get (A.size + 1) = .cells [.int .i64 m.pc, s.v, .int .i64 m.steps, .int .i64 m.looks, .bool false, .int .i64 0, .string ⟨#[]⟩, .bool false, .string ⟨#[]⟩, .bool false] 10 := by rw [← hH, AH.gNo (by simp only [AH.zN]; omega)]; exact AH.gNs (A.new _) _
 have go : H.get (A.size + 2) = .cells [.int .i64 0, Sl.nil.v, .int .i64 0, .int .i64 0, .bool false, .int .i64 0, .string .empty, .bool false, .string .empty, .bool false] 10 := by rw [← hH]; exact AH.gNs ((A.new _).new _) _
 clear hH
 have hEA := hE.trans hEH
 refine (Store.spec.l2NameOk_a _ nm).mono ?_
 rintro r H ⟨rfl, rfl⟩
 have fr : ∀ {A2 : AH}, Ext A A2 → Ext A0 A2 ∧ A.size ≤ A2.size ∧ ∀ b, b < A.size → (s.nl = true ∨ b ≠ s.b) → A2.get b = A.get b := fun h => ⟨hE.trans h, h.size, fun b hb _ => h.get b hb⟩
 by_cases j1 : NameOk nm
 ·rw [if_neg (fun h => h j1)]
  by_cases j2 : (m.looks : Int) = 200
  ·rw [if_pos (by omega)]
   simp (maxSteps := 2000000) (disch := first | omega | (simp only [AH.zN, AH.zP] <;> omega) | fail) only [amR Tryz.prog ro X, amS, seval, reduceCtorEq, ty3, ty4, ty9, ty22, ty106, ty120, ty126, ty195, j1, j2, gs, go]
   refine (SpecM.l2End_a _ (by first | omega | (simp only [AH.zN, AH.zP] <;> omega)) s m.pc m.steps 200 false 0 ⟨#[]⟩ false ⟨#[]⟩ false 3 ⟨#[]⟩).mono ?_
   rintro r A2 ⟨rfl, hE2⟩
   have z2 := hE2.size
   have go2 := (hE2.get (A.size + 2) (by omega)).trans go
   simp (disch := first | omega | fail) only [amR Tryz.prog ro X, amS, seval, reduceCtorEq, ty3, ty4, ty9, ty22, ty106, ty120, ty126, ty195, sc, go2]
   exact ⟨_, rfl, ⟨s, m.pc, 200, false, ⟨#[]⟩, rfl⟩, fr (Ext.put (hEH.trans hE2) (by omega) _)⟩
  ·rw [if_neg (by omega)]
   by_cases j3 : (l.length : Int) ≤ m.looks
   ·rw [List.getElem?_eq_none (by omega)]
    simp (maxSteps := 2000000) (disch := first | omega | (simp only [AH.zN, AH.zP] <;> omega) | fail) only [amR Tryz.prog ro X, amS, seval, reduceCtorEq, ty3, ty4, ty9, ty22, ty106, ty120, ty126, ty195, j1, j2, j3, hulen, gs, gi, go]
    exact ⟨_, rfl, ⟨s, m.pc, m.looks, rfl⟩, fr (by (repeat' (first | exact hEH | refine Ext.put ?_ ?_ _)) <;> omega)⟩
   ·have hil : m.looks < l.length := by omega
    rw [List.getElem?_eq_getElem hil]
    obtain ⟨n1, b1, i1, r1, _⟩ := row_rep (hu.ext hEA) hil
    have ho' : o = 12 ∨ o = 13 := ho
    rcases ho with rfl | rfl
    ·simp (maxSteps := 2000000) (disch := first | omega | (simp only [AH.zN, AH.zP] <;> omega) | fail) only [amR Tryz.prog ro X, amS, seval, reduceCtorEq, ty3, ty4, ty9, ty22, ty106, ty120, ty126, ty195, j1, j2, j3, hulen, gs, gi, go, n1, b1, i1, r1]
     generalize hH1 : AH.put (AH.put (AH.new H _) _ _) _ _ = H1
     have z1 : H1.size = H.size + 1 := by rw [← hH1]; rfl
     have hE1 : Ext A H1 := by rw [← hH1]; exact (by (repeat' (first | exact hEH | refine Ext.put ?_ ?_ _ | refine Ext.trans ?_ (Ext.new _ _))) <;> omega)
     have gs1 : H1.get (A.size + 1) = .cells [.int .i64 m.pc, s.v, .int .i64 m.steps, .int .i64 (m.looks + 1 : Nat), .bool false, .int .i64 0, .string ⟨#[]⟩, .bool false, .string ⟨#[]⟩, .bool false] 10 := by rw [← hH1]; exact AH.gPs _ _ _
     have go1 := (show H1.get (A.size + 2) = H.get (A.size + 2) by rw [← hH1, AH.gPo (by omega), AH.gPo (by omega), AH.gNo (by omega)]).trans go
     have gr1 : H1.get H.size = .cells [.bool l[m.looks].1, .int .i64 l[m.looks].2.1, .string l[m.looks].2.2] 3 := by rw [← hH1, AH.gPo (by omega)]; exact AH.gPs _ _ _
     clear hH1
     have hs1 := hs.ext hE1
     have push : ∀ v : ByteArray, v.size ≤ 2000 → ∃ s1 H2, aAppend Tryz.prog ro (H1.new (.cells [.string v] 1)) 22 s.v (Sl.v ⟨false, H1.size, 0, 1, 1⟩) = some (s1.v, H2) ∧ Stk A0.size H2 s1 (m.st ++ [v]) ∧ H1.size + 1 ≤ H2.size ∧ (∀ b, b < H1.size → (s.nl = true ∨ b ≠ s.b) → H2.get b = H1.get b) := by
      intro v hv
      obtain ⟨s1, H2, h1, h2, h3, h4, h5, h6⟩ := (hs1.ext (Ext.new H1 (.cells [.string v] 1))).push (P := Tryz.prog) hro (by simp only [AH.zN]; omega) (t := 22) (by simp only [ty22]) (x := Sl.v ⟨false, H1.size, 0, 1, 1⟩) (v := v) (by simp [Sl.v, aSource, aRow_eq, AH.gNs, rowK]) (by unfold BIG; omega) (by omega)
      exact ⟨s1, H2, h1, h2, h3, fun b hb hn => (h4 b (by simp only [AH.zN]; omega) hn).trans (AH.gNo (by omega))⟩
     have fin : ∀ {v : ByteArray} {s1 : Sl} {H2 : AH} (c c' : AObj), Stk A0.size H2 s1 (m.st ++ [v]) → H1.size + 1 ≤ H2.size → (∀ b, b < H1.size → (s.nl = true ∨ b ≠ s.b) → H2.get b = H1.get b) →
      Stk A0.size ((H2.put (A.size + 1) c).put (A.size + 1 + 1) c') s1 (m.st ++ [v]) ∧ Ext A0 ((H2.put (A.size + 1) c).put (A.size + 1 + 1) c') ∧ A.size ≤ ((H2.put (A.size + 1) c).put (A.size + 1 + 1) c').size ∧ ∀ b, b < A.size → (s.nl = true ∨ b ≠ s.b) → ((H2.put (A.size + 1) c).put (A.size + 1 + 1) c').get b = A.get b := by
      intro v s1 H2 c c' w2 w3 w4
      have gs2 := (w4 (A.size + 1) (by omega) (Turn.stk_ne hs1 (by decide) gs1)).trans gs1
      have go2 := (w4 (A.size + 1 + 1) (by omega) (Turn.stk_ne hs1 (by decide) go1)).trans go1
      have hfr : ∀ b, b < A.size → (s.nl = true ∨ b ≠ s.b) → ((H2.put (A.size + 1) c).put (A.size + 1 + 1) c').get b = A.get b := fun b hb hn => by
       rw [AH.gPo (by omega), AH.gPo (by omega)]
       exact (w4 b (by omega) hn).trans (hE1.get b hb)
      refine ⟨w2.frame (by simp only [AH.zP]; omega) (fun hn => ?_), ⟨by simp only [AH.zP]; omega, fun b hb => (hfr b (by omega) ?_).trans (hE.get b hb)⟩, by simp only [AH.zP]; omega, hfr⟩
      ·have k1 : A.size + 1 ≠ s1.b := by rcases Turn.stk_ne w2 (by decide) gs2 with h | h; rw [h] at hn; cases hn; exact h
       have k2 : A.size + 1 + 1 ≠ s1.b := by rcases Turn.stk_ne w2 (by decide) go2 with h | h; rw [h] at hn; cases hn; exact h
       rw [AH.gPo (Ne.symm k2), AH.gPo (Ne.symm k1)]
      ·rcases hs with ⟨rfl, _⟩ | ⟨_, h, _⟩
       ·exact .inl rfl
       ·exact .inr (by omega)
     by_cases k1 : l[m.looks].1 = false
     ·have htold : toldS true nm ⟨m.pc, m.st, m.steps, m.looks + 1⟩ l[m.looks] = .fin 4 nm m.steps := by unfold toldS; rw [if_neg (by simp), if_pos k1]
      rw [htold]
      simp (maxSteps := 2000000) (disch := first | omega | (simp only [AH.zN, AH.zP] <;> omega) | fail) only [amR Tryz.prog ro X, amS, seval, reduceCtorEq, ty3, ty4, ty9, ty22, ty106, ty120, ty126, ty195, k1, gs1, go1]
      refine (SpecM.l2End_a _ (by first | omega | (simp only [AH.zN, AH.zP] <;> omega)) s m.pc m.steps (m.looks + 1) false 0 ⟨#[]⟩ false ⟨#[]⟩ false 4 nm).mono ?_
      rintro r A2 ⟨rfl, hE2⟩
      have z2 := hE2.size
      have go2 := (hE2.get (A.size + 2) (by omega)).trans go1
      simp (disch := first | omega | fail) only [amR Tryz.prog ro X, amS, seval, reduceCtorEq, ty3, ty4, ty9, ty22, ty106, ty120, ty126, ty195, sc, go2]
      exact ⟨_, rfl, ⟨s, m.pc, m.looks + 1, false, ⟨#[]⟩, rfl⟩, fr (Ext.put (hE1.trans hE2) (by omega) _)⟩
     have k1' : l[m.looks].1 = true := by simpa using k1
     by_cases k2 : l[m.looks].2.1 = 0
     ·have htold : toldS true nm ⟨m.pc, m.st, m.steps, m.looks + 1⟩ l[m.looks] = .go ⟨m.pc, m.st ++ [l[m.looks].2.2], m.steps, m.looks + 1⟩ := by unfold toldS; rw [if_neg (by simp), if_neg k1, if_neg (by simp [k2])]
      obtain ⟨s1, H2, w1, w2, w3, w4⟩ := push l[m.looks].2.2 (hl _ (List.getElem_mem hil))
      have gs2 := (w4 (A.size + 1) (by omega) (Turn.stk_ne hs1 (by decide) gs1)).trans gs1
      have go2 := (w4 (A.size + 2) (by omega) (Turn.stk_ne hs1 (by decide) go1)).trans go1
      rw [htold]
      simp (maxSteps := 2000000) (disch := first | omega | (simp only [AH.zN, AH.zP] <;> omega) | fail) only [amR Tryz.prog ro X, amS, seval, reduceCtorEq, ty3, ty4, ty9, ty22, ty106, ty120, ty126, ty195, k1', k2, gs1, gr1, w1, gs2, go2]
      obtain ⟨x1, x2⟩ := fin _ _ w2 w3 w4
      exact ⟨_, rfl, ⟨s1, rfl, x1⟩, x2⟩
     ·have htold : toldS true nm ⟨m.pc, m.st, m.steps, m.looks + 1⟩ l[m.looks] = .fin 5 nm m.steps := by unfold toldS; rw [if_neg (by simp), if_neg k1, if_pos k2]
      rw [htold]
      simp (maxSteps := 2000000) (disch := first | omega | (simp only [AH.zN, AH.zP] <;> omega) | fail) only [amR Tryz.prog ro X, amS, seval, reduceCtorEq, ty3, ty4, ty9, ty22, ty106, ty120, ty126, ty195, k1', k2, gs1, gr1, go1]
      refine (SpecM.l2End_a _ (by first | omega | (simp only [AH.zN, AH.zP] <;> omega)) s m.pc m.steps (m.looks + 1) false 0 ⟨#[]⟩ false ⟨#[]⟩ false 5 nm).mono ?_
      rintro r A2 ⟨rfl, hE2⟩
      have z2 := hE2.size
      have go2 := (hE2.get (A.size + 2) (by omega)).trans go1
      simp (disch := first | omega | fail) only [amR Tryz.prog ro X, amS, seval, reduceCtorEq, ty3, ty4, ty9, ty22, ty106, ty120, ty126, ty195, sc, go2]
      exact ⟨_, rfl, ⟨s, m.pc, m.looks + 1, false, ⟨#[]⟩, rfl⟩, fr (Ext.put (hE1.trans hE2) (by omega) _)⟩
    ·simp (maxSteps := 2000000) (disch := first | omega | (simp only [AH.zN, AH.zP] <;> omega) | fail) only [amR Tryz.prog ro X, amS, seval, reduceCtorEq, ty3, ty4, ty9, ty22, ty106, ty120, ty126, ty195, j1, j2, j3, hulen, gs, gi, go, n1, b1, i1, r1]
     generalize hH1 : AH.put (AH.put (AH.new H _) _ _) _ _ = H1
     have z1 : H1.size = H.size + 1 := by rw [← hH1]; rfl
     have hE1 : Ext A H1 := by rw [← hH1]; exact (by (repeat' (first | exact hEH | refine Ext.put ?_ ?_ _ | refine Ext.trans ?_ (Ext.new _ _))) <;> omega)
     have gs1 : H1.get (A.size + 1) = .cells [.int .i64 m.pc, s.v, .int .i64 m.steps, .int .i64 (m.looks + 1 : Nat), .bool false, .int .i64 0, .string ⟨#[]⟩, .bool false, .string ⟨#[]⟩, .bool false] 10 := by rw [← hH1]; exact AH.gPs _ _ _
     have go1 := (show H1.get (A.size + 2) = H.get (A.size + 2) by rw [← hH1, AH.gPo (by omega), AH.gPo (by omega), AH.gNo (by omega)]).trans go
     have gr1 : H1.get H.size = .cells [.bool l[m.looks].1, .int .i64 l[m.looks].2.1, .string l[m.looks].2.2] 3 := by rw [← hH1, AH.gPo (by omega)]; exact AH.gPs _ _ _
     clear hH1
     have hs1 := hs.ext hE1
     have push : ∀ v : ByteArray, v.size ≤ 2000 → ∃ s1 H2, aAppend Tryz.prog ro (H1.new (.cells [.string v] 1)) 22 s.v (Sl.v ⟨false, H1.size, 0, 1, 1⟩) = some (s1.v, H2) ∧ Stk A0.size H2 s1 (m.st ++ [v]) ∧ H1.size + 1 ≤ H2.size ∧ (∀ b, b < H1.size → (s.nl = true ∨ b ≠ s.b) → H2.get b = H1.get b) := by
      intro v hv
      obtain ⟨s1, H2, h1, h2, h3, h4, h5, h6⟩ := (hs1.ext (Ext.new H1 (.cells [.string v] 1))).push (P := Tryz.prog) hro (by simp only [AH.zN]; omega) (t := 22) (by simp only [ty22]) (x := Sl.v ⟨false, H1.size, 0, 1, 1⟩) (v := v) (by simp [Sl.v, aSource, aRow_eq, AH.gNs, rowK]) (by unfold BIG; omega) (by omega)
      exact ⟨s1, H2, h1, h2, h3, fun b hb hn => (h4 b (by simp only [AH.zN]; omega) hn).trans (AH.gNo (by omega))⟩
     have fin : ∀ {v : ByteArray} {s1 : Sl} {H2 : AH} (c c' : AObj), Stk A0.size H2 s1 (m.st ++ [v]) → H1.size + 1 ≤ H2.size → (∀ b, b < H1.size → (s.nl = true ∨ b ≠ s.b) → H2.get b = H1.get b) →
      Stk A0.size ((H2.put (A.size + 1) c).put (A.size + 1 + 1) c') s1 (m.st ++ [v]) ∧ Ext A0 ((H2.put (A.size + 1) c).put (A.size + 1 + 1) c') ∧ A.size ≤ ((H2.put (A.size + 1) c).put (A.size + 1 + 1) c').size ∧ ∀ b, b < A.size → (s.nl = true ∨ b ≠ s.b) → ((H2.put (A.size + 1) c).put (A.size + 1 + 1) c').get b = A.get b := by
      intro v s1 H2 c c' w2 w3 w4
      have gs2 := (w4 (A.size + 1) (by omega) (Turn.stk_ne hs1 (by decide) gs1)).trans gs1
      have go2 := (w4 (A.size + 1 + 1) (by omega) (Turn.stk_ne hs1 (by decide) go1)).trans go1
      have hfr : ∀ b, b < A.size → (s.nl = true ∨ b ≠ s.b) → ((H2.put (A.size + 1) c).put (A.size + 1 + 1) c').get b = A.get b := fun b hb hn => by
       rw [AH.gPo (by omega), AH.gPo (by omega)]
       exact (w4 b (by omega) hn).trans (hE1.get b hb)
      refine ⟨w2.frame (by simp only [AH.zP]; omega) (fun hn => ?_), ⟨by simp only [AH.zP]; omega, fun b hb => (hfr b (by omega) ?_).trans (hE.get b hb)⟩, by simp only [AH.zP]; omega, hfr⟩
      ·have k1 : A.size + 1 ≠ s1.b := by rcases Turn.stk_ne w2 (by decide) gs2 with h | h; rw [h] at hn; cases hn; exact h
       have k2 : A.size + 1 + 1 ≠ s1.b := by rcases Turn.stk_ne w2 (by decide) go2 with h | h; rw [h] at hn; cases hn; exact h
       rw [AH.gPo (Ne.symm k2), AH.gPo (Ne.symm k1)]
      ·rcases hs with ⟨rfl, _⟩ | ⟨_, h, _⟩
       ·exact .inl rfl
       ·exact .inr (by omega)
     refine Wp.runG [4] (by kernel_rfl) (.inl (by kernel_rfl)) ?_
     simp (disch := first | omega | fail) only [amR Tryz.prog ro X, amS, seval, reduceCtorEq, ty3, ty4, ty9, ty22, ty106, ty120, ty126, ty195, gs1, gr1]
     refine (SpecM.l2Flag_a _ _).mono ?_
     rintro r H1 ⟨rfl, rfl⟩
     obtain ⟨s1, H2, w1, w2, w3, w4⟩ := push (flagS l[m.looks].1) (by rw [flagS_size]; omega)
     have gs2 := (w4 (A.size + 1) (by omega) (Turn.stk_ne hs1 (by decide) gs1)).trans gs1
     have go2 := (w4 (A.size + 2) (by omega) (Turn.stk_ne hs1 (by decide) go1)).trans go1
     simp (disch := first | omega | fail) only [amR Tryz.prog ro X, amS, seval, reduceCtorEq, ty3, ty4, ty9, ty22, ty106, ty120, ty126, ty195, gs1, w1, gs2, go2]
     obtain ⟨x1, x2⟩ := fin _ _ w2 w3 w4
     exact ⟨fun _ _ => trivial, _, rfl, ⟨s1, rfl, x1⟩, x2⟩
 ·rw [if_pos j1]
  simp (maxSteps := 2000000) (disch := first | omega | (simp only [AH.zN, AH.zP] <;> omega) | fail) only [amR Tryz.prog ro X, amS, seval, reduceCtorEq, ty3, ty4, ty9, ty22, ty106, ty120, ty126, ty195, j1, gs, go]
  refine (SpecM.l2End_a _ (by first | omega | (simp only [AH.zN, AH.zP] <;> omega)) s m.pc m.steps m.looks false 0 ⟨#[]⟩ false ⟨#[]⟩ false 2 w).mono ?_
  rintro r A2 ⟨rfl, hE2⟩
  have z2 := hE2.size
  have go2 := (hE2.get (A.size + 2) (by omega)).trans go
  simp (disch := first | omega | fail) only [amR Tryz.prog ro X, amS, seval, reduceCtorEq, ty3, ty4, ty9, ty22, ty106, ty120, ty126, ty195, sc, go2]
  exact ⟨_, rfl, ⟨s, m.pc, m.looks, false, ⟨#[]⟩, rfl⟩, fr (Ext.put (hEH.trans hE2) (by omega) _)⟩
end Go.Proofs.YtmelgjblkmbhjaaGreatDoor.Amu.SpecL
