import Derived.Test.YtjlbcofopapajaaDoorAmuTy
import Derived.Test.YtjlbcofopapajaaDoorAmTX
import Derived.Test.YtjlbcofopapajaaDoorAmuSum
import Derived.Test.YtjlbcofopapajaaDoorAmuProg
namespace Go.Proofs.YtjlbcofopapajaaDoor.Amu.Store
open Go Go.AM Go.Proofs
set_option linter.all false
open Ty
variable {ro : Nat} {X : FuncId → List Value → AH → ARes → AH → Prop}
set_option maxRecDepth 10000
theorem impl.isName_a (A : AH) (s : ByteArray) : ACalls Tryd.prog ro X 77 [.string s] A (fun r A' => r = .ret (.bool (decide (NameOk s))) ∧ A' = A) := by
 refine ACalls.enterQ (rs := [.tmp 2]) Tryd.func77 rfl (by kernel_rfl) rfl ?_
 by_cases h1 : (s.size : Int) < 1
 ·simp (disch := first | omega | fail) only [amR Tryd.prog ro X, amS, seval, reduceCtorEq, ty3, ty5, ty9, h1]
  rw [decide_eq_false]
  intro h; have := h.1; omega
 by_cases h2 : (60 : Int) < s.size
 ·simp (disch := first | omega | fail) only [amR Tryd.prog ro X, amS, seval, reduceCtorEq, ty3, ty5, ty9, h1, h2]
  rw [decide_eq_false]
  intro h; have := h.2.1; omega
 simp (disch := first | omega | fail) only [amR Tryd.prog ro X, amS, seval, reduceCtorEq, ty3, ty5, ty9, h1, h2]
 refine Wp.loopC (fun n e A' => A' = A ∧ e 0 = .string s ∧ ∃ i : Nat, i ≤ s.size ∧ n = s.size - i ∧ e 3 = .int .i64 i ∧ ∀ b ∈ (ls s).take i, NameB b) (s.size - 0) ?_ ?_
 ·simp (disch := first | omega | fail) only [amV, amH, amQ, amL, amN Tryd.prog, amS, seval, reduceCtorEq, ty3, ty5, ty9]
  exact ⟨0, by omega, rfl, rfl, by simp⟩
 ·rintro n e A' ⟨rfl, h0, i, hi, rfl, h3, hall⟩
  simp (disch := first | omega | fail) only [amR Tryd.prog ro X, amS, seval, reduceCtorEq, ty3, ty5, ty9, h0, h3]
  refine CondB.split (fun h => ?_) (fun h => ?_)
  ·have hil : i < s.size := by simpa using h
   have hm := bget_mem s i hil
   by_cases k1 : ((bget s i).toNat : Int) < 33
   ·simp (disch := first | omega | fail) only [amR Tryd.prog ro X, amS, seval, reduceCtorEq, ty3, ty5, ty9, h0, h3, k1]
    rw [decide_eq_false]
    intro h; have := (h.2.2 _ hm).1; omega
   by_cases k2 : (126 : Int) < (bget s i).toNat
   ·simp (disch := first | omega | fail) only [amR Tryd.prog ro X, amS, seval, reduceCtorEq, ty3, ty5, ty9, h0, h3, k1, k2]
    rw [decide_eq_false]
    intro h; have := (h.2.2 _ hm).2; omega
   simp (disch := first | omega | fail) only [amR Tryd.prog ro X, amS, seval, reduceCtorEq, ty3, ty5, ty9, h0, h3, k1, k2]
   exact ⟨s.size - (i + 1), by omega, i + 1, by omega, rfl, by simp, (ls_all_succ hil).2 ⟨hall, by omega, by omega⟩⟩
  ·have hil : i = s.size := by simp at h; omega
   subst hil
   rw [ls_take_all] at hall
   simp (disch := first | omega | fail) only [amR Tryd.prog ro X, amS, seval, reduceCtorEq, ty3, ty5, ty9]
   rw [decide_eq_true]
   exact ⟨by omega, by omega, hall⟩
theorem spec.l2NameOk_a (A : AH) (s : ByteArray) : ACalls Tryd.prog ro X 72 [.string s] A (fun r A' => r = .ret (.bool (decide (NameOk s))) ∧ A' = A) := by
 refine ACalls.enterQ (rs := [.tmp 2]) Tryd.func72 rfl (by kernel_rfl) rfl ?_
 by_cases h1 : (s.size : Int) < 1
 ·simp (disch := first | omega | fail) only [amR Tryd.prog ro X, amS, seval, reduceCtorEq, ty3, ty5, ty9, h1]
  rw [decide_eq_false]
  intro h; have := h.1; omega
 by_cases h2 : (60 : Int) < s.size
 ·simp (disch := first | omega | fail) only [amR Tryd.prog ro X, amS, seval, reduceCtorEq, ty3, ty5, ty9, h1, h2]
  rw [decide_eq_false]
  intro h; have := h.2.1; omega
 simp (disch := first | omega | fail) only [amR Tryd.prog ro X, amS, seval, reduceCtorEq, ty3, ty5, ty9, h1, h2]
 refine Wp.loopC (fun n e A' => A' = A ∧ e 0 = .string s ∧ ∃ i : Nat, i ≤ s.size ∧ n = s.size - i ∧ e 3 = .int .i64 i ∧ ∀ b ∈ (ls s).take i, NameB b) (s.size - 0) ?_ ?_
 ·simp (disch := first | omega | fail) only [amV, amH, amQ, amL, amN Tryd.prog, amS, seval, reduceCtorEq, ty3, ty5, ty9]
  exact ⟨0, by omega, rfl, rfl, by simp⟩
 ·rintro n e A' ⟨rfl, h0, i, hi, rfl, h3, hall⟩
  simp (disch := first | omega | fail) only [amR Tryd.prog ro X, amS, seval, reduceCtorEq, ty3, ty5, ty9, h0, h3]
  refine CondB.split (fun h => ?_) (fun h => ?_)
  ·have hil : i < s.size := by simpa using h
   have hm := bget_mem s i hil
   by_cases k1 : ((bget s i).toNat : Int) < 33
   ·simp (disch := first | omega | fail) only [amR Tryd.prog ro X, amS, seval, reduceCtorEq, ty3, ty5, ty9, h0, h3, k1]
    rw [decide_eq_false]
    intro h; have := (h.2.2 _ hm).1; omega
   by_cases k2 : (126 : Int) < (bget s i).toNat
   ·simp (disch := first | omega | fail) only [amR Tryd.prog ro X, amS, seval, reduceCtorEq, ty3, ty5, ty9, h0, h3, k1, k2]
    rw [decide_eq_false]
    intro h; have := (h.2.2 _ hm).2; omega
   simp (disch := first | omega | fail) only [amR Tryd.prog ro X, amS, seval, reduceCtorEq, ty3, ty5, ty9, h0, h3, k1, k2]
   exact ⟨s.size - (i + 1), by omega, i + 1, by omega, rfl, by simp, (ls_all_succ hil).2 ⟨hall, by omega, by omega⟩⟩
  ·have hil : i = s.size := by simp at h; omega
   subst hil
   rw [ls_take_all] at hall
   simp (disch := first | omega | fail) only [amR Tryd.prog ro X, amS, seval, reduceCtorEq, ty3, ty5, ty9]
   rw [decide_eq_true]
   exact ⟨by omega, by omega, hall⟩
end Go.Proofs.YtjlbcofopapajaaDoor.Amu.Store
