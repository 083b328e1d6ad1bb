import Derived.Test.YtjlbcofopapajaaDoorAmuTy
import Derived.Test.YtjlbcofopapajaaDoorAmTX
import Derived.Test.YtjlbcofopapajaaDoorAmuLawA
import Derived.Test.YtjlbcofopapajaaDoorProg
namespace Go.Proofs.YtjlbcofopapajaaDoor.Amu.Form
open Go Go.AM Go.Proofs
set_option linter.all false
open Ty
variable {ro : Nat} {X : FuncId → List Value → AH → ARes → AH → Prop}
set_option maxRecDepth 10000
theorem l2Dec_a (n : Nat) : ∀ (A : AH) (hro : ro ≤ A.size) (hn : n < 1152921504606846976),
 ACalls Tryd.prog ro X 118 [.int .i64 n] A (fun r A' => r = .ret (.string (decS n)) ∧ Ext A A') := by
 induction n using Nat.strongRecOn with
 | _ n ih =>
   intro A hro hn
   refine ACalls.enterQ (rs := [.tmp 2]) Tryd.func118 rfl (by kernel_rfl) rfl ?_
   simp (disch := first | omega | fail) only [amR Tryd.prog ro X, amS, seval, reduceCtorEq, ty3, ty5, ty9, ty69]
   refine CondB.split (fun h => ?_) (fun h => ?_)
   ·have h10 : n < 10 := by simp at h; omega
    simp (disch := first | omega | fail) only [amR Tryd.prog ro X, amS, seval, reduceCtorEq, ty3, ty5, ty9, ty69]
    refine ⟨?_, Ext.new _ _⟩
    rw [decS_lt h10]
    rfl
   ·have h10 : ¬ n < 10 := by simp at h; omega
    refine Wp.runG [2] (by kernel_rfl) (.inr (by intro v e A h; simp only [amK, amQ, thenQ, blockQ, endQ, reduceCtorEq, false_and, exists_false] at h)) ?_
    simp (disch := first | omega | fail) only [amR Tryd.prog ro X, amS, seval, reduceCtorEq, ty3, ty5, ty9, ty69]
    have e : ((n : Int) / 10) = ((n / 10 : Nat) : Int) := by omega
    rw [e]
    refine (ih (n / 10) (by omega) A hro (by omega)).mono ?_
    rintro r A2 ⟨rfl, hE⟩
    have hz := decS_size (n / 10)
    refine ⟨trivial, fun b hb => hE.get b hb, ?_⟩
    simp (disch := first | omega | fail) only [amR Tryd.prog ro X, amS, seval, reduceCtorEq, ty3, ty5, ty9, ty69]
    refine ⟨?_, (by ((repeat' (first | exact Ext.refl _ | assumption | refine Ext.trans ?_ (Ext.new _ _) | refine Ext.put ?_ ?_ _ | refine Ext.trans ?_ (by assumption))) <;> (first | omega | (simp only [AH.zN, AH.zP] <;> omega))))⟩
    rw [decS_ge h10]
    rfl
end Go.Proofs.YtjlbcofopapajaaDoor.Amu.Form
