/- Entry, third part: a law's call by the abstract machine; its arguments stay as they were. -/
import Derived.Test.YtmelgjblkmbhjaaGreatDoorAmK
import Derived.Carry
import Derived.OpenVars
namespace Go.AM
open Go Go.RowKit
set_option linter.unusedVariables false
section
variable {H : Type} {enc : TypeId × Value → H} {P : Program}
theorem args_stay (hl : laidOutB P = true) {W W' : World} (hb : Below W.heap.size W W') : ∀ {ts : List TypeId} {vs : List Value} {ds : List (DataW H)} {ps : List MemPlace}, (ts.all fun t => P.readableRec t && decide (t < P.types.size)) = true →
    DataW.TrodAll enc P W 0 (fun _ => true) true ts vs ds ps → DataW.TrodAll enc P W' 0 (fun b => decide (b < W.heap.size)) true ts vs ds ps
  | [], [], [], _, _, h => h
  | t :: ts, v :: vs, d :: ds, ps, hr, h => by
    have hlt := h.lt
    obtain ⟨p, q, h1, h2, e⟩ := h
    simp only [List.all_cons, Bool.and_eq_true, decide_eq_true_eq] at hr
    exact ⟨p, q, Below.trod hl hr.1.1 hr.1.2 h1 hb (fun x hx => hlt x (by rw [e]; simp [hx])), args_stay hl hb (by simpa using hr.2) h2, e⟩
  | [], [], _ :: _, _, _, h => h.elim
  | [], _ :: _, _, _, _, h => by cases ‹List (DataW H)› <;> exact h.elim
  | _ :: _, [], _, _, _, h => by cases ‹List (DataW H)› <;> exact h.elim
  | _ :: _, _ :: _, [], _, _, h => h.elim
end
/-- The functions that are not reckoned keep their word in every world. -/
def XSound (P : Program) (X : Nat → FuncId → List Value → AH → ARes → AH → Prop) : Prop :=
  ∀ (ro base : Nat) (w0 : World) f args A r A', X ro f args A r A' → CallSound P P.globals.size ro base w0 f args A r A' ∧ A.size ≤ A'.size
theorem law_calls {P : Program} {X : Nat → FuncId → List Value → AH → ARes → AH → Prop} {f : FuncId} {fn : Func} {c : Code} (hf : P.funcs[f]? = some fn) (hb : fn.body = some c) (hnm : (fn.name == "runtime.NumGoroutine") = false)
    (hm : P.follows .mixedOrders = true) (hX : XSound P X) {W : World} {m : Emb} {A : AH} {avs : List Value} {args : List Value} (hS : SimR P.globals.size W m A) (hv : VRels m avs args)
    (h : ACalls P A.size (X A.size) f avs A (fun r _ => r = .ret (.bool true))) : Calls P f args.toArray W (fun e W' => e = .returned (.bool true) ∧ Below W.heap.size W W') := by
  obtain ⟨r, A', hbig, rfl⟩ := h
  have hs := (Big.sound (P := P) (ng := P.globals.size) (ro := A.size) (base := W.heap.size) (w0 := W) rfl hm (fun f args A r A' hx => hX _ _ _ f args A r A' hx) hbig).1
  have hs' : CallSound P P.globals.size A.size W.heap.size W f avs A (.ret (.bool true)) A' := hs
  rcases hs' m W args hS hv with ⟨_, h2⟩ | ⟨v', w', h2, _⟩
  · refine h2.mono fun e w' he => ?_
    cases e with
    | returned v' =>
      obtain ⟨m', h3, h4⟩ := he
      cases h4
      exact ⟨rfl, h3.sim.old⟩
    | panicked ch => exact he.elim
    | outgrown => exact he.elim
  · exfalso
    have : (callFunc f args.toArray).run P W = .ok (.enter f args.toArray) W := by
      simp [callFunc, hf, hb]
      exact fun e => by rw [e] at hnm; simp at hnm
    rw [this] at h2
    cases h2
end Go.AM
