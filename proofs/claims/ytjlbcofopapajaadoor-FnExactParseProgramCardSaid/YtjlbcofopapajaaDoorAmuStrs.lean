import Derived.Test.YtjlbcofopapajaaDoorAmuTy
import Derived.Test.YtjlbcofopapajaaDoorAmM
import Derived.Test.YtjlbcofopapajaaDoorProg
namespace Go.Proofs.YtjlbcofopapajaaDoor.Amu.Strs
open Go Go.AM Go.Proofs
set_option linter.all false
open Ty
variable {ro : Nat} {X : FuncId → List Value → AH → ARes → AH → Prop}
set_option maxRecDepth 10000
theorem markText_a (A : AH) (hro : ro ≤ A.size) (k : Int) (hk : 0 ≤ k ∧ k < 1152921504606846976) :
 ACalls Tryd.prog ro X 145 [.int .i64 k] A (fun r A' => r = .ret (.string (mkText k)) ∧ Ext A A') := by
 refine ACalls.enterQ (rs := [.tmp 2]) Tryd.func145 rfl (by kernel_rfl) rfl ?_
 simp (disch := first | omega | fail) only [amR Tryd.prog ro X, amS, seval, reduceCtorEq, ty3, ty5, ty9, ty69]
 refine CondB.split (fun h => ?_) (fun h => ?_)
 ·simp (disch := first | omega | fail) only [amR Tryd.prog ro X, amS, seval, reduceCtorEq, ty3, ty5, ty9, ty69]
  have : k ≤ 0 := by simpa using h
  simp [mkText, this, Ext.refl]
 ·simp (disch := first | omega | fail) only [amR Tryd.prog ro X, amS, seval, reduceCtorEq, ty3, ty5, ty9, ty69]
  have hk0 : ¬ k ≤ 0 := by simpa using h
  refine Wp.loopC (fun n e A' => Ext A A' ∧ ∃ s : ByteArray, e 0 = .int .i64 (n : Nat) ∧ e 3 = .string s ∧ s.size + n < 1152921504606846976 ∧ mkGo n s = mkGo k.toNat ByteArray.empty) k.toNat ?_ ?_
  ·simp (disch := first | omega | fail) only [amV, amH, amQ, amL, amN Tryd.prog, amS, seval, reduceCtorEq, ty3, ty5, ty9, ty69]
   refine ⟨Ext.refl A, ByteArray.empty, by congr 1 <;> omega, rfl, by show 0 + _ < _; omega, rfl⟩
  ·rintro n e A' ⟨hE, s, h0, h3, hs, heq⟩
   simp (disch := first | omega | fail) only [amR Tryd.prog ro X, amS, seval, reduceCtorEq, ty3, ty5, ty9, ty69, h0, h3]
   refine CondB.split (fun h => ?_) (fun h => ?_)
   ·have hn : 0 < n := by simp at h; omega
    simp (disch := first | omega | fail) only [amR Tryd.prog ro X, amS, seval, reduceCtorEq, ty3, ty5, ty9, ty69, h0, h3]
    refine ⟨n / 10, by omega, hE.trans (Ext.new _ _), _, by congr 1, rfl, ?_, ?_⟩
    ·rw [ByteArray.size_append]
     show 1 + s.size + n / 10 < _
     omega
    ·rw [← heq]
     conv => rhs; unfold mkGo
     rw [if_neg (by omega)]
     congr 5
   ·have hn : n = 0 := by simp at h; omega
    subst hn
    simp (disch := first | omega | fail) only [amR Tryd.prog ro X, amS, seval, reduceCtorEq, ty3, ty5, ty9, ty69, h3]
    refine ⟨?_, hE⟩
    have e0 : mkGo 0 s = s := by unfold mkGo; rfl
    rw [mkText, if_neg hk0, ← heq, e0]
end Go.Proofs.YtjlbcofopapajaaDoor.Amu.Strs
