import Derived.Test.YtjlbcofopapajaaDoorAmuTy
import Derived.Test.YtjlbcofopapajaaDoorAmTX
import Derived.Test.YtjlbcofopapajaaDoorProg
namespace Go.Proofs.YtjlbcofopapajaaDoor.Amu.Copy
open Go Go.AM Go.Proofs
set_option linter.all false
open Ty
variable {ro : Nat} {X : FuncId → List Value → AH → ARes → AH → Prop}
set_option maxRecDepth 10000
theorem impl.copyProgram_a (A : AH) (hro : ro ≤ A.size) (s : Sl) (l : List TIns) (F : List Nat) (h : SlR A s l F) (hl : l.length < 4294967296) :
 ACalls Tryd.prog ro X 89 [.agg #[s.v]] A (fun r A' => ∃ t G, r = .ret (.agg #[t.v]) ∧ SlR A' t l G ∧ Fresh A G A' ∧ Ext A A') := by
 refine ACalls.enterQ (rs := [.cell 2 29]) Tryd.func89 rfl (by kernel_rfl) rfl ?_
 have hE : Ext A (((A.new (.cells [s.v] 1)).new (.cells [Sl.nil.v] 1)).new (.cells [] 3)) := ((Ext.new _ _).trans (Ext.new _ _)).trans (Ext.new _ _)
 obtain ⟨vs, G0, hsrc, hr, _⟩ := (h.ext hE).src
 obtain rfl := hr.nofoot nofoot_Ins
 obtain ⟨s', A1, hap, hacc, hg, _⟩ := (Acc.empty (lo := ((A.new (.cells [s.v] 1)).new (.cells [Sl.nil.v] 1)).size) (A := ((A.new (.cells [s.v] 1)).new (.cells [Sl.nil.v] 1)).new (.cells [] 3)) (α := TIns) (A.size + 1 + 1) 0).app (P := Tryd.prog) (ro := ro) (t := 27) (by first | omega | (simp only [AH.zN, AH.zP] <;> omega)) (by simp only [ty27]; rfl) hsrc rfl hr (.inr (by simp)) (by simpa using hl) (by simp only [AH.zN]; omega)
 have hE1 : Ext A A1 := hg.ext hE (by first | omega | (simp only [AH.zN, AH.zP] <;> omega))
 have g1 := hg.get (A.size + 1) (by first | omega | (simp only [AH.zN, AH.zP] <;> omega)) (.inl (by first | omega | (simp only [AH.zN, AH.zP] <;> omega)))
 simp (maxSteps := 2000000) (disch := first | omega | (simp only [AH.zN, AH.zP] <;> omega) | fail) only [amR Tryd.prog ro X, amS, seval, reduceCtorEq, ty27, ty29, ty97, hap, g1]
 obtain ⟨G, hS, hF⟩ := hacc.fresh (Fresh.nil _ A1)
 exact ⟨s', G, rfl, hS.extx ((ExtX.refl [A.size + 1] A1).put (by simp) _) (fun b hb => by have := hF.lo b hb; simp only [AH.zN] at this; simp; omega), hF.mono (by first | omega | (simp only [AH.zN, AH.zP] <;> omega)) (by first | omega | (simp only [AH.zN, AH.zP] <;> omega)), (by ((repeat' (first | exact Ext.refl _ | assumption | refine Ext.trans ?_ (Ext.new _ _) | refine Ext.put ?_ ?_ _ | refine Ext.trans ?_ (by assumption))) <;> (first | omega | (simp only [AH.zN, AH.zP] <;> omega))))⟩
theorem spec.l3Program_a (A : AH) (hro : ro ≤ A.size) (s : Sl) (l : List TIns) (F : List Nat) (h : SlR A s l F) (hl : l.length < 4294967296) :
 ACalls Tryd.prog ro X 88 [.agg #[s.v]] A (fun r A' => ∃ t G, r = .ret (.agg #[t.v]) ∧ SlR A' t l G ∧ Fresh A G A' ∧ Ext A A') := by
 refine ACalls.enterQ (rs := [.cell 2 29]) Tryd.func88 rfl (by kernel_rfl) rfl ?_
 have hE : Ext A (((A.new (.cells [s.v] 1)).new (.cells [Sl.nil.v] 1)).new (.cells [] 3)) := ((Ext.new _ _).trans (Ext.new _ _)).trans (Ext.new _ _)
 obtain ⟨vs, G0, hsrc, hr, _⟩ := (h.ext hE).src
 obtain rfl := hr.nofoot nofoot_Ins
 obtain ⟨s', A1, hap, hacc, hg, _⟩ := (Acc.empty (lo := ((A.new (.cells [s.v] 1)).new (.cells [Sl.nil.v] 1)).size) (A := ((A.new (.cells [s.v] 1)).new (.cells [Sl.nil.v] 1)).new (.cells [] 3)) (α := TIns) (A.size + 1 + 1) 0).app (P := Tryd.prog) (ro := ro) (t := 27) (by first | omega | (simp only [AH.zN, AH.zP] <;> omega)) (by simp only [ty27]; rfl) hsrc rfl hr (.inr (by simp)) (by simpa using hl) (by simp only [AH.zN]; omega)
 have hE1 : Ext A A1 := hg.ext hE (by first | omega | (simp only [AH.zN, AH.zP] <;> omega))
 have g1 := hg.get (A.size + 1) (by first | omega | (simp only [AH.zN, AH.zP] <;> omega)) (.inl (by first | omega | (simp only [AH.zN, AH.zP] <;> omega)))
 simp (maxSteps := 2000000) (disch := first | omega | (simp only [AH.zN, AH.zP] <;> omega) | fail) only [amR Tryd.prog ro X, amS, seval, reduceCtorEq, ty27, ty29, ty97, hap, g1]
 obtain ⟨G, hS, hF⟩ := hacc.fresh (Fresh.nil _ A1)
 exact ⟨s', G, rfl, hS.extx ((ExtX.refl [A.size + 1] A1).put (by simp) _) (fun b hb => by have := hF.lo b hb; simp only [AH.zN] at this; simp; omega), hF.mono (by first | omega | (simp only [AH.zN, AH.zP] <;> omega)) (by first | omega | (simp only [AH.zN, AH.zP] <;> omega)), (by ((repeat' (first | exact Ext.refl _ | assumption | refine Ext.trans ?_ (Ext.new _ _) | refine Ext.put ?_ ?_ _ | refine Ext.trans ?_ (by assumption))) <;> (first | omega | (simp only [AH.zN, AH.zP] <;> omega))))⟩
end Go.Proofs.YtjlbcofopapajaaDoor.Amu.Copy
