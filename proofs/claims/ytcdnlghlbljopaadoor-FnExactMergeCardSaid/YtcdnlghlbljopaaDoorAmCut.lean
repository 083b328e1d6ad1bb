/- Code reckoned in parts: what holds behind a part is named, and the rest goes on from it. -/
import Derived.Test.YtcdnlghlbljopaaDoorAmZ
namespace Go.AM
open Go
set_option linter.unusedVariables false
set_option linter.unusedSimpArgs false
section
variable {P : Program} {ro : Nat} {X : FuncId → List Value → AH → ARes → AH → Prop}
theorem RunL.mono {ops : Array Oper} {D : Option (Nat → Prop)} {Q1 Q2 : Post} (h : ∀ x e A, Q1 x e A → Q2 x e A) : ∀ (os : List Oper) (i : Nat) (e : Env) (A : AH), RunL P ro X ops D Q1 os i e A → RunL P ro X ops D Q2 os i e A := by
  intro os
  induction os with
  | nil => intro i e A k; exact h _ _ _ k
  | cons o os ih =>
    intro i e A k
    simp only [RunL] at k ⊢
    cases hw : aWanted ops o e with
    | false => rw [hw] at k; exact ih _ _ _ k
    | true =>
      rw [hw] at k
      simp only [RunW, RunOp] at k ⊢
      cases ht : aTarget e o.op with
      | some fa =>
        obtain ⟨f, args⟩ := fa
        rw [ht] at k
        simp only [RunT] at k ⊢
        refine k.mono fun r A1 hk => ?_
        cases r with
        | ret v => exact ⟨hk.1, ih _ _ _ hk.2⟩
        | pan v => exact ⟨hk.1, h _ _ _ hk.2⟩
      | none =>
        rw [ht] at k
        simp only [RunT] at k ⊢
        cases hp : aPanic e o.op with
        | some v => rw [hp] at k; exact ⟨k.1, h _ _ _ k.2⟩
        | none =>
          rw [hp] at k
          simp only [RunP] at k ⊢
          cases hv : aOp P ro A.size o.op e A with
          | none => rw [hv] at k; exact k.elim
          | some va => rw [hv] at k; exact ⟨k.1, ih _ _ _ k.2⟩
theorem thenQ.mono {K1 K2 : Env → AH → Prop} {Q1 Q2 : Post} (hK : ∀ e A, K1 e A → K2 e A) (h : ∀ x e A, Q1 x e A → Q2 x e A) (x : AExit) (e : Env) (A : AH) (k : thenQ K1 Q1 x e A) : thenQ K2 Q2 x e A := by
  cases x with
  | normal => exact hK _ _ k
  | _ => exact h _ _ _ k
theorem blockQ.mono {id : Nat} {Q1 Q2 : Post} (h : ∀ x e A, Q1 x e A → Q2 x e A) (x : AExit) (e : Env) (A : AH) (k : blockQ id Q1 x e A) : blockQ id Q2 x e A := by
  cases x with
  | exit n =>
    have k : (if n = id then Q1 .normal e A else Q1 (.exit n) e A) := k
    show (if n = id then Q2 .normal e A else Q2 (.exit n) e A)
    by_cases hn : n = id
    · rw [if_pos hn] at k ⊢; exact h _ _ _ k
    · rw [if_neg hn] at k ⊢; exact h _ _ _ k
  | _ => exact h _ _ _ k
theorem RunC.mono : ∀ (c : Code) {Q1 Q2 : Post} (h : ∀ x e A, Q1 x e A → Q2 x e A) (e : Env) (A : AH), RunC P ro X c Q1 e A → RunC P ro X c Q2 e A := by
  intro c
  induction c with
  | skip => intro Q1 Q2 h e A k; exact h _ _ _ k
  | seq a b iha ihb =>
    intro Q1 Q2 h e A k
    exact iha (fun x e A => thenQ.mono (fun e A => ihb h e A) h x e A) e A k
  | cond c a b iha ihb =>
    intro Q1 Q2 h e A k
    simp only [RunC] at k ⊢
    cases hv : e.eval c <;> rw [hv] at k <;> first | exact k.elim | skip
    rename_i t
    cases t
    · exact ihb h e A k
    · exact iha h e A k
  | block id a ih =>
    intro Q1 Q2 h e A k
    exact ih (fun x e A => blockQ.mono h x e A) e A k
  | exit id => intro Q1 Q2 h e A k; exact h _ _ _ k
  | ret => intro Q1 Q2 h e A k; exact h _ _ _ k
  | region id ops d =>
    intro Q1 Q2 h e A k
    cases d with
    | false => exact RunL.mono h _ _ _ _ k
    | true => exact Wp.mono k h
  | _ => intro Q1 Q2 h e A k; exact Wp.mono k h
/-- The first part ends as M says; the rest goes on from M. -/
theorem RunC.cut {a b : Code} {Q : Post} {e : Env} {A : AH} (M : Env → AH → Prop) (h : RunC P ro X a (fun x e A => x = .normal ∧ M e A) e A) (k : ∀ e A, M e A → RunC P ro X b Q e A) : RunC P ro X (.seq a b) Q e A := by
  refine RunC.mono a (fun x e A hx => ?_) e A h
  obtain ⟨rfl, hm⟩ := hx
  exact k _ _ hm
theorem RunC.cutB {id : Nat} {a : Code} {Q : Post} {e : Env} {A : AH} (h : RunC P ro X a (blockQ id Q) e A) : RunC P ro X (.block id a) Q e A := h
theorem Wp.cut {a b : Code} {Q : Post} {e : Env} {A : AH} (M : Env → AH → Prop) (h : RunC P ro X a (fun x e A => x = .normal ∧ M e A) e A) (k : ∀ e A, M e A → Wp P ro X b e A Q) : Wp P ro X (.seq a b) e A Q := by
  obtain ⟨x, e', A', hb, rfl, hm⟩ := RunC.sound _ _ _ _ h
  obtain ⟨y, e2, A2, hb2, hq⟩ := k _ _ hm
  exact ⟨y, e2, A2, .seq hb hb2, hq⟩
end
end Go.AM
