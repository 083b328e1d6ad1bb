/- Soundness of the abstract machine, twelfth part: what soundness means for code, regions, calls; a region in the text's order. -/
import Derived.Test.YtcdnlghlbljopaaDoorAmS11
namespace Go.AM
open Go Go.RowKit
section
variable (P : Program) (ng ro base : Nat) (w0 : World)
/-- A call in the world: it enters the function, or the function has no Go text and answers at once. -/
def FnRuns (f : FuncId) (args : Array Value) (w : World) (R : Ending → World → Prop) : Prop :=
  ((callFunc f args).run P w = .ok (.enter f args) w ∧ Calls P f args w R) ∨ (∃ v' w', (callFunc f args).run P w = .ok (.value v') w' ∧ R (.returned v') w')
def EndRel (m : Emb) (A : AH) (w : World) (A' : AH) : ARes → Ending → World → Prop
  | .ret v, .returned v', w' => ∃ m', Step ng ro base w0 m A w m' A' w' ∧ VRel m' v v'
  | .pan v, .panicked ch, w' => ∃ m' v', ch = [{ v := v', recovered := false }] ∧ Step ng ro base w0 m A w m' A' w' ∧ VRel m' v v'
  | _, _, _ => False
def CallSound (f : FuncId) (args : List Value) (A : AH) (r : ARes) (A' : AH) : Prop :=
  ∀ (m : Emb) (w : World) (args' : List Value), Sim ng ro base w0 m A w → VRels m args args' → FnRuns P f args'.toArray w (EndRel ng ro base w0 m A w A' r)
def OpSound (o : Oper) (e : Env) (A : AH) (v : Value) (A1 : AH) : Prop :=
  ∀ (m : Emb) (w : World) (a : Act), Sim ng ro base w0 m A w → (∀ x, x ∈ o.op.operands.toList → VRel m (e.eval x) (a.eval x)) → ∀ (K : Act → World → Prop) (Q : Exit → Act → World → Prop),
    (∀ m' w' v', Step ng ro base w0 m A w m' A1 w' → VRel m' v v' → K (a.put o.dst v') w') → o.wp P a w K Q
def OpPan (o : Oper) (e : Env) (A : AH) (v : Value) (A1 : AH) : Prop :=
  ∀ (m : Emb) (w : World) (a : Act), Sim ng ro base w0 m A w → (∀ x, x ∈ o.op.operands.toList → VRel m (e.eval x) (a.eval x)) → ∀ (K : Act → World → Prop) (Q : Exit → Act → World → Prop),
    (∀ m' w' v', Step ng ro base w0 m A w m' A1 w' → VRel m' v v' → Q (.panic [{ v := v', recovered := false }]) a w') → o.wp P a w K Q
/-- What is asked of the end of a piece of code. -/
def Ends (m : Emb) (A : AH) (w : World) (a : Act) (A' : AH) (e' : Env) (Q : Exit → Act → World → Prop) (x : AExit) : Prop :=
  ∀ (m' : Emb) (a' : Act) (w' : World), Step ng ro base w0 m A w m' A' w' → a'.tmps.size = a.tmps.size → a'.defers = a.defers →
    match x with
    | .normal => EnvRel m' e' a'.tmps → Q .normal a' w'
    | .exit id => EnvRel m' e' a'.tmps → Q (.exit id) a' w'
    | .ret => EnvRel m' e' a'.tmps → Q .ret a' w'
    | .pan v => ∀ v', VRel m' v v' → Q (.panic [{ v := v', recovered := false }]) a' w'
def CodeSound (c : Code) (e : Env) (A : AH) (x : AExit) (e' : Env) (A' : AH) : Prop :=
  ∀ (m : Emb) (w : World) (a : Act) (Q : Exit → Act → World → Prop), Sim ng ro base w0 m A w → EnvRel m e a.tmps → dstsOk a.tmps.size ng c = true → Ends ng ro base w0 m A w a A' e' Q x → c.wp P Q a w
def OpsSound (ops : Array Oper) (l : List Nat) (e : Env) (A : AH) (x : AExit) (e' : Env) (A' : AH) : Prop :=
  ∀ (m : Emb) (w : World) (a : Act) (Q : Exit → Act → World → Prop), Sim ng ro base w0 m A w → EnvRel m e a.tmps → (∀ o ∈ ops.toList, dstOk a.tmps.size ng o = true) → Ends ng ro base w0 m A w a A' e' Q x →
    wpOps P ops Q l a w
/-- Nothing lies beyond the heap's size. -/
def Wf (A : AH) : Prop := ∀ b, A.size ≤ b → A.get b = .dead
def Grows (A A' : AH) : Prop := A.size ≤ A'.size
/-- A region's course in the text's order, each step of which is sound: for regions that draw their order. -/
inductive Tr (ops : Array Oper) (S : Nat → Prop) : List Nat → Env → AH → AExit → Env → AH → Prop
  | nil {e A} : Tr ops S [] e A .normal e A
  | pass {i l e A o x e' A'} (ho : ops[i]? = some o) (hw : aWanted ops o e = false) (k : Tr ops S l (e.put o.dst undef) A x e' A') : Tr ops S (i :: l) e A x e' A'
  | quiet {i l e A o v A1 x e' A'} (ho : ops[i]? = some o) (hw : aWanted ops o e = true) (hn : isEff o.op = false) (hv : aOp P ro A.size o.op e A = some (v, A1)) (hd : Held ops (some S) i o.op e A A1)
      (k : Tr ops S l (e.put o.dst v) A1 x e' A') : Tr ops S (i :: l) e A x e' A'
  | eff {i l e A o v A1 x e' A'} (ho : ops[i]? = some o) (hw : aWanted ops o e = true) (hn : isEff o.op = true) (hv : OpSound P ng ro base w0 o e A v A1) (hg : Grows A A1) (hd : Held ops (some S) i o.op e A A1)
      (k : Tr ops S l (e.put o.dst v) A1 x e' A') : Tr ops S (i :: l) e A x e' A'
  | pan {i l e A o v A1} (ho : ops[i]? = some o) (hw : aWanted ops o e = true) (hn : isEff o.op = true) (hv : OpPan P ng ro base w0 o e A v A1) (ha : allWait ops i = true) : Tr ops S (i :: l) e A (.pan v) e A1
end
section
variable {P : Program} {ng ro base : Nat} {w0 : World}
theorem evals {m : Emb} {A : AH} {w : World} {e : Env} {a : Act} {o : Oper} (hS : Sim ng ro base w0 m A w) (hE : EnvRel m e a.tmps) {n : Nat} (hok : dstOk n ng o = true) :
    ∀ x, x ∈ o.op.operands.toList → VRel m (e.eval x) (a.eval x) := by
  intro x hx
  unfold dstOk at hok
  rw [Bool.and_eq_true] at hok
  exact hE.eval hS (List.all_eq_true.1 hok.2 x hx)
theorem dst_lt {o : Oper} {n : Nat} (hok : dstOk n ng o = true) : ∀ d, o.dst = some d → d < n := by
  intro d hd
  unfold dstOk at hok
  rw [Bool.and_eq_true, hd] at hok
  simpa using hok.1
theorem wanted_ok {m : Emb} {e : Env} {tmps : Array Value} {ops : Array Oper} {o : Oper} (h : ∀ j want d, o.guard = some (j, want) → (ops[j]?).bind (·.dst) = some d → VRel m (e d) (tmps.getD d undef)) :
    Region.wanted o (yielded ops tmps) = aWanted ops o e := by
  unfold Region.wanted aWanted
  cases hg : o.guard with
  | none => rfl
  | some jw =>
    obtain ⟨j, want⟩ := jw
    simp only
    unfold yielded
    cases hd : (ops[j]?).bind (·.dst) with
    | none => simp
    | some d =>
      have hr := h j want d hg hd
      simp only [Option.bind_some]
      generalize he : e d = v at hr
      by_cases hlt : d < tmps.size
      · have ht : tmps[d]? = some (tmps.getD d undef) := by simp [hlt]
        rw [ht]
        generalize tmps.getD d undef = v' at hr
        cases hr <;> simp
      · have ht : tmps[d]? = none := Array.getElem?_eq_none (Nat.le_of_not_lt hlt)
        have hu : tmps.getD d undef = undef := by simp [Array.getD_eq_getD_getElem?, ht]
        rw [ht]
        rw [hu] at hr
        cases hr
        simp
theorem opSound_of {o : Oper} {e : Env} {A : AH} {v : Value} {A1 : AH} (hv : aOp P ro A.size o.op e A = some (v, A1)) : OpSound P ng ro base w0 o e A v A1 := by
  intro m w a hS ev K Q hK
  obtain ⟨m', w', n, v', h1, h2, h3, h4, _⟩ := op_ok (P := P) hS hS.fresh hS.rl ev hv
  unfold Oper.wp
  rw [h1]
  rcases h2 with rfl | ⟨rfl, rfl⟩
  · exact hK m' w' v' h3 h4
  · exact hK m' w' undef h3 h4
theorem target_ok {o : Oper} {e : Env} {f : FuncId} {args : List Value} (ht : aTarget e o.op = some (f, args)) {m : Emb} {a : Act} (ev : ∀ x, x ∈ o.op.operands.toList → VRel m (e.eval x) (a.eval x)) :
    ∃ args', VRels m args args' ∧ ∀ w, (execOp a.eval o).run P w = (callFunc f args'.toArray).run P w := by
  cases hop : o.op <;> rw [hop] at ht <;> simp only [aTarget] at ht <;> try (cases ht; done)
  rename_i c
  split at ht
  · rename_i fo hc
    split at ht
    · rename_i g first captured hf
      cases ht
      rw [hop] at ev
      have h1 := ev fo (by simp [Op.operands, Call.operands, hc])
      rw [hf] at h1
      generalize hav : a.eval fo = v' at h1
      cases h1 with
      | func _ _ f' _ c' h2 h3 =>
      have h4 := VRels.evals (e := e) (a := a) c.args.toList (m := m) (fun x hx => ev x (by simp only [Op.operands, Call.operands]; exact Array.mem_toList_iff.2 (Array.mem_append.2 (.inr (by simpa using hx)))))
      refine ⟨_, (h2.append h4).append h3, fun w => ?_⟩
      have : (f'.toList ++ c.args.toList.map a.eval ++ c'.toList).toArray = f' ++ c.args.map a.eval ++ c' := by apply Array.ext'; simp
      rw [this]
      simp [execOp, hop, resolve, hc, hav, Deferred.ofValue, invoke]
    · cases ht
  · cases ht
theorem opSound_call {o : Oper} {e : Env} {A : AH} {f : FuncId} {args : List Value} {v : Value} {A1 : AH} (ht : aTarget e o.op = some (f, args)) (hc : CallSound P ng ro base w0 f args A (.ret v) A1) :
    OpSound P ng ro base w0 o e A v A1 := by
  intro m w a hS ev K Q hK
  obtain ⟨args', h1, h2⟩ := target_ok (P := P) ht ev
  unfold Oper.wp
  rw [h2 w]
  rcases hc m w args' hS h1 with ⟨h3, h4⟩ | ⟨v', w', h3, m', h4, h5⟩
  · rw [h3]
    refine h4.mono fun en w' he => ?_
    cases en with
    | returned v' => obtain ⟨m', h5, h6⟩ := he; exact hK m' w' v' h5 h6
    | panicked ch => exact he.elim
    | outgrown => exact he.elim
  · rw [h3]
    exact hK m' w' v' h4 h5
theorem opPan_call {o : Oper} {e : Env} {A : AH} {f : FuncId} {args : List Value} {v : Value} {A1 : AH} (ht : aTarget e o.op = some (f, args)) (hc : CallSound P ng ro base w0 f args A (.pan v) A1) :
    OpPan P ng ro base w0 o e A v A1 := by
  intro m w a hS ev K Q hK
  obtain ⟨args', h1, h2⟩ := target_ok (P := P) ht ev
  unfold Oper.wp
  rw [h2 w]
  rcases hc m w args' hS h1 with ⟨h3, h4⟩ | ⟨v', w', h3, h4⟩
  · rw [h3]
    refine h4.mono fun en w' he => ?_
    cases en with
    | returned v' => exact he.elim
    | panicked ch => obtain ⟨m', v', rfl, h5, h6⟩ := he; exact hK m' w' v' h5 h6
    | outgrown => exact he.elim
  · exact h4.elim
theorem opPan_panic {o : Oper} {e : Env} {A : AH} {x : Operand} {t : TypeId} {v : Value} (hx : o.op = .panic x) (hv : e.eval x = .iface t v) : OpPan P ng ro base w0 o e A (.iface t v) A := by
  intro m w a hS ev K Q hK
  have h1 := ev x (by rw [hx]; simp [Op.operands])
  rw [hv] at h1
  unfold Oper.wp
  generalize hav : a.eval x = v' at h1
  cases h1 with
  | iface _ _ v' h2 =>
  have : (execOp a.eval o).run P w = .halt (.panic (.iface t v')) w := by simp [execOp, hx, hav, Instr.panic]
  rw [this]
  exact hK m w _ (.refl hS) (.iface _ _ _ h2)
/-- The end of one step and the end of the rest. -/
theorem Ends.step {m : Emb} {A : AH} {w : World} {a : Act} {A1 A' : AH} {e' : Env} {Q : Exit → Act → World → Prop} {x : AExit} (h : Ends ng ro base w0 m A w a A' e' Q x) {m1 : Emb} {w1 : World} {a1 : Act}
    (hs : Step ng ro base w0 m A w m1 A1 w1) (ht : a1.tmps.size = a.tmps.size) (hd : a1.defers = a.defers) : Ends ng ro base w0 m1 A1 w1 a1 A' e' Q x :=
  fun m' a' w' hs' ht' hd' => h m' a' w' (hs.trans hs') (ht'.trans ht) (hd'.trans hd)
theorem put_size {a : Act} {d : Option Nat} {v : Value} : (a.put d v).tmps.size = a.tmps.size := by cases d <;> simp [Act.put]
theorem put_defers {a : Act} {d : Option Nat} {v : Value} : (a.put d v).defers = a.defers := by cases d <;> rfl
theorem OpsSound.nil {ops : Array Oper} {e : Env} {A : AH} : OpsSound P ng ro base w0 ops [] e A .normal e A := by
  intro m w a Q hS hE _ hK
  exact hK m a w (.refl hS) rfl rfl hE
theorem OpsSound.pass {ops : Array Oper} {i : Nat} {l : List Nat} {e e' : Env} {A A' : AH} {o : Oper} {x : AExit} (ho : ops[i]? = some o) (hw : aWanted ops o e = false)
    (k : OpsSound P ng ro base w0 ops l (e.put o.dst undef) A x e' A') : OpsSound P ng ro base w0 ops (i :: l) e A x e' A' := by
  intro m w a Q hS hE hok hK
  have ho' := hok o (by have := Array.mem_of_getElem? ho; simpa using this)
  have hwd : Region.wanted o (yielded ops a.tmps) = false := (wanted_ok (e := e) (fun _ _ d _ _ => hE d)).trans hw
  simp only [wpOps, ho, hwd, Bool.false_eq_true, if_false]
  exact k m w _ Q hS (hE.put (.undef m) (dst_lt ho')) (by rw [put_size]; exact hok) (hK.step (.refl hS) put_size put_defers)
theorem OpsSound.op {ops : Array Oper} {i : Nat} {l : List Nat} {e e' : Env} {A A1 A' : AH} {o : Oper} {v : Value} {x : AExit} (ho : ops[i]? = some o) (hw : aWanted ops o e = true) (hv : OpSound P ng ro base w0 o e A v A1)
    (k : OpsSound P ng ro base w0 ops l (e.put o.dst v) A1 x e' A') : OpsSound P ng ro base w0 ops (i :: l) e A x e' A' := by
  intro m w a Q hS hE hok hK
  have ho' := hok o (by have := Array.mem_of_getElem? ho; simpa using this)
  have hwd : Region.wanted o (yielded ops a.tmps) = true := (wanted_ok (e := e) (fun _ _ d _ _ => hE d)).trans hw
  simp only [wpOps, ho, hwd, if_true]
  refine .inl (hv m w a hS (evals hS hE ho') _ _ fun m' w' v' hs hr => ?_)
  exact k m' w' _ Q hs.sim ((hE.mono hs.le).put hr (dst_lt ho')) (by rw [put_size]; exact hok) (hK.step hs put_size put_defers)
theorem OpsSound.pan {ops : Array Oper} {i : Nat} {l : List Nat} {e : Env} {A A1 : AH} {o : Oper} {v : Value} (ho : ops[i]? = some o) (hw : aWanted ops o e = true) (hv : OpPan P ng ro base w0 o e A v A1) :
    OpsSound P ng ro base w0 ops (i :: l) e A (.pan v) e A1 := by
  intro m w a Q hS hE hok hK
  have ho' := hok o (by have := Array.mem_of_getElem? ho; simpa using this)
  have hwd : Region.wanted o (yielded ops a.tmps) = true := (wanted_ok (e := e) (fun _ _ d _ _ => hE d)).trans hw
  simp only [wpOps, ho, hwd, if_true]
  exact .inl (hv m w a hS (evals hS hE ho') _ _ fun m' w' v' hs hr => hK m' a w' hs rfl rfl v' hr)
end
end Go.AM
