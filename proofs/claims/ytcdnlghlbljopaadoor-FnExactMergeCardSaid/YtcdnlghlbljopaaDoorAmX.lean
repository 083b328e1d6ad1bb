/- The abstract machine in use: regions that draw their order and whose looks lie in blocks ahead of n, their free effects in later ones. -/
import Derived.Test.YtcdnlghlbljopaaDoorAmW
namespace Go.AM
open Go
set_option linter.unusedVariables false
set_option linter.unusedSimpArgs false
def lookH (n : Nat) (e : Env) (op : Op) (p : Prop) : Prop := (isEff op = false → ∀ b, readsAt e op = some b → b < n) ∧ p
def keepH (n : Nat) (A A1 : AH) (p : Prop) : Prop := (∀ b, b < n → A1.get b = A.get b) ∧ p
def lookV (n : Nat) (v : Value) (p : Prop) : Prop := (∀ a, v = .pointer (some a) → a.block < n) ∧ p
def lookM (n : Nat) (v : Value) (p : Prop) : Prop := (∀ r, v = .map (some r) → r < n) ∧ p
def restH (n : Nat) (fl : List Nat) (i : Nat) (op : Op) (e : Env) (A : AH) (rest : Rest) : Rest := fun j e' A1 =>
  lookH n e op (if fl.elem i then keepH n A A1 (rest j e' A1) else rest j e' A1)
/-- The operations of such a region. -/
def RunH (P : Program) (ro : Nat) (X : FuncId → List Value → AH → ARes → AH → Prop) (ops : Array Oper) (n : Nat) (fl : List Nat) (Q : Post) : List Oper → Rest
  | [], _, e, A => Q .normal e A
  | o :: os, i, e, A =>
    RunW (RunH P ro X ops n fl Q os) o i e A (RunOp P ro X ops none Q o (restH n fl i o.op e A (RunH P ro X ops n fl Q os)) i e A) (aWanted ops o e)
section
variable {P : Program} {ro : Nat} {X : FuncId → List Value → AH → ARes → AH → Prop} {Q : Post}
theorem RunH.sound {ops : Array Oper} {n : Nat} {fl : List Nat} (hk : drawFree ops fl = true) (hp : callsWait ops = true ∨ ∀ v e A, ¬ Q (.pan v) e A) : ∀ (os : List Oper) (i : Nat) (e : Env) (A : AH), os = ops.toList.drop i → RunH P ro X ops n fl Q os i e A →
    WpOps P ro X ops (some fun b => b < n) (List.range' i os.length) e A Q := by
  intro os
  induction os with
  | nil => intro i e A _ h; exact WpOps.nil h
  | cons o os ih =>
    intro i e A hos h
    have ho : ops[i]? = some o := by
      have := congrArg (·[0]?) hos
      simpa using this.symm
    have hos' : os = ops.toList.drop (i + 1) := by
      have := congrArg (List.drop 1) hos
      simpa [List.drop_drop, Nat.add_comm] using this
    have hi : i < ops.size := by
      rcases Nat.lt_or_ge i ops.size with h' | h'
      · exact h'
      · rw [Array.getElem?_eq_none h'] at ho; cases ho
    have hat : opAt ops i = o.op := by simp [opAt, ho]
    have hk2 := hk
    unfold drawFree at hk2
    rw [Bool.and_eq_true] at hk2
    have hkk := List.all_eq_true.1 hk2.2 i (List.mem_range.2 hi)
    rw [hat, Bool.and_eq_true] at hkk
    have held : ∀ (e' : Env) (A1 : AH) (rest : Rest), restH n fl i o.op e A rest (i + 1) e' A1 → Held ops (some fun b => b < n) i o.op e A A1 ∧ rest (i + 1) e' A1 := by
      intro e' A1 rest hr
      unfold restH lookH at hr
      obtain ⟨hl, hr⟩ := hr
      by_cases hf : fl.elem i = true
      · rw [if_pos hf] at hr
        refine ⟨fun S hS => ?_, hr.2⟩
        cases hS
        exact ⟨fun b h1 h2 => hl h1 b h2, fun _ _ b hb hs => hr.1 b hs⟩
      · rw [if_neg hf] at hr
        refine ⟨fun S hS => ?_, hr⟩
        cases hS
        refine ⟨fun b h1 h2 => hl h1 b h2, fun h1 h2 => ?_⟩
        rw [h1, h2] at hkk
        simp only [Bool.not_true, Bool.false_or] at hkk
        exact absurd hkk.2 hf
    rw [List.length_cons, List.range'_succ]
    simp only [RunH] at h
    cases hw : aWanted ops o e with
    | false =>
      rw [hw] at h
      simp only [RunW] at h
      obtain ⟨x, e', A', hb2, hq2⟩ := ih _ _ _ hos' h
      exact ⟨x, e', A', .pass ho hw hb2, hq2⟩
    | true =>
      rw [hw] at h
      simp only [RunW, RunOp] at h
      cases ht : aTarget e o.op with
      | some fa =>
        obtain ⟨f, args⟩ := fa
        rw [ht] at h
        obtain ⟨r, A1, hb, hq⟩ := h
        cases r with
        | ret v =>
          simp only [RunK] at hq
          obtain ⟨hd, hq⟩ := held _ _ _ hq.2
          obtain ⟨x, e', A', hb2, hq2⟩ := ih _ _ _ hos' hq
          exact ⟨x, e', A', .call ho hw ht hb hd hb2, hq2⟩
        | pan v =>
          rcases hp with hp | hp
          · refine ⟨_, _, _, .callp ho hw ht hb (fun _ => ?_), hq.2⟩
            have := List.all_eq_true.1 hp i (List.mem_range.2 hi)
            rw [hat] at this
            have hc : isCallV o.op = true := by
              cases hop : o.op <;> rw [hop] at ht <;> simp only [aTarget] at ht <;> try (cases ht; done)
              split at ht
              · rename_i hc; simp [isCallV, hc]
              · cases ht
            simpa [hc] using this
          · exact absurd hq.2 (hp _ _ _)
      | none =>
        rw [ht] at h
        simp only [RunT] at h
        cases hpn : aPanic e o.op with
        | some v =>
          cases hop : o.op <;> simp only [hop, aPanic] at hpn <;> try (cases hpn; done)
          rw [hop] at hkk
          simp [isPanic] at hkk
        | none =>
          rw [hpn] at h
          simp only [RunP] at h
          cases hv : aOp P ro A.size o.op e A with
          | none => rw [hv] at h; exact h.elim
          | some va =>
            obtain ⟨v, A1⟩ := va
            rw [hv] at h
            obtain ⟨hd, hq⟩ := held _ _ _ h.2
            obtain ⟨x, e', A', hb2, hq2⟩ := ih _ _ _ hos' hq
            exact ⟨x, e', A', .op ho hw hv hd hb2, hq2⟩
theorem Wp.runH {id : Nat} {ops : Array Oper} {e : Env} {A : AH} (n : Nat) (fl : List Nat) (hk : drawFree ops fl = true) (hp : callsWait ops = true ∨ ∀ v e A, ¬ Q (.pan v) e A) (h : RunH P ro X ops n fl Q ops.toList 0 e A) :
    Wp P ro X (.region id ops true) e A Q := by
  have := RunH.sound hk hp ops.toList 0 e A (by simp) h
  have hk2 := hk
  unfold drawFree at hk2
  rw [Bool.and_eq_true] at hk2
  refine Wp.drawn (fun b => b < n) rfl hk2.1 ?_
  simpa [List.range_eq_range'] using this
theorem WpH {id : Nat} {ops : Array Oper} {e : Env} {A : AH} (n : Nat) (fl : List Nat) (hk : drawFree ops fl = true) (hp : callsWait ops = true ∨ ∀ v e A, ¬ Q (.pan v) e A) (h : RunH P ro X ops n fl Q ops.toList 0 e A) :
    RunC P ro X (.region id ops true) Q e A := Wp.runH n fl hk hp h
end
theorem lookH_no {n : Nat} {e : Env} {op : Op} {p : Prop} (h : readsAt e op = none) : lookH n e op p = p := by
  unfold lookH
  rw [h]
  exact propext ⟨fun h => h.2, fun h => ⟨fun _ _ h => (nomatch h), h⟩⟩
theorem lookH_eff {n : Nat} {e : Env} {op : Op} {p : Prop} (h : isEff op = true) : lookH n e op p = p := by
  unfold lookH
  rw [h]
  exact propext ⟨fun h => h.2, fun h => ⟨fun h => (nomatch h), h⟩⟩
theorem amX (P : Program) (ro : Nat) (X : FuncId → List Value → AH → ARes → AH → Prop) :
    (∀ ops n fl Q i e A, RunH P ro X ops n fl Q [] i e A = Q .normal e A) ∧
    (∀ ops n fl Q o os i e A, RunH P ro X ops n fl Q (o :: os) i e A = RunW (RunH P ro X ops n fl Q os) o i e A (RunOp P ro X ops none Q o (restH n fl i o.op e A (RunH P ro X ops n fl Q os)) i e A) (aWanted ops o e)) ∧
    (∀ n fl i op e A rest j e' A1, restH n fl i op e A rest j e' A1 = lookH n e op (if fl.elem i then keepH n A A1 (rest j e' A1) else rest j e' A1)) ∧
    (∀ n e x p, lookH n e (.move x) p = p) ∧ (∀ n e x p, lookH n e (.assign x) p = p) ∧ (∀ n e c a b p, lookH n e (.pick c a b) p = p) ∧ (∀ n e t p, lookH n e (.alloc t) p = p) ∧ (∀ n e t x p, lookH n e (.box t x) p = p) ∧
    (∀ n e t x p, lookH n e (.build t x) p = p) ∧ (∀ n e t k x p, lookH n e (.buildSlice t k x) p = p) ∧ (∀ n e t a v p, lookH n e (.store t a v) p = p) ∧ (∀ n e t m a v p, lookH n e (.mapUpdate t m a v) p = p) ∧
    (∀ n e o t a b u p, lookH n e (.binOp o t a b u) p = p) ∧ (∀ n e o t a p, lookH n e (.unOp o t a) p = p) ∧ (∀ n e t a i p, lookH n e (.fieldAddr t a i) p = p) ∧ (∀ n e t a i p, lookH n e (.field t a i) p = p) ∧
    (∀ n e t a i p, lookH n e (.indexAddr t a i) p = p) ∧ (∀ n e t a i p, lookH n e (.index t a i) p = p) ∧ (∀ n e t a i p, lookH n e (.makeSlice t a i) p = p) ∧ (∀ n e t a p, lookH n e (.makeMap t a) p = p) ∧ (∀ n e a i p, lookH n e (.extract a i) p = p) ∧
    (∀ n e f args ts p, lookH n e (.call ⟨.value f, args, ts⟩) p = p) ∧ (∀ n e args ts p, lookH n e (.call ⟨.builtin .append, args, ts⟩) p = p) ∧
    (∀ n e x ts p, lookH n e (.call ⟨.builtin .len, #[x], ts⟩) p = lookM n (e.eval x) p) ∧ (∀ n e t x p, lookH n e (.load t x) p = lookV n (e.eval x) p) ∧
    (∀ n s k c p, lookM n (.slice s k c) p = p) ∧ (∀ n (s : Sl) p, lookM n s.v p = p) ∧ (∀ n s p, lookM n (.string s) p = p) ∧ (∀ n r p, r < n → lookM n (.map (some r)) p = p) ∧
    (∀ n b o t p, b < n → lookV n (.pointer (some ⟨b, o, t⟩)) p = p) ∧
    (∀ n A p, keepH n A A p = p) ∧ (∀ n A b o p, n ≤ b → keepH n A (A.put b o) p = p) ∧ (∀ n (A : AH) o p, n ≤ A.size → keepH n A (A.new o) p = p) ∧ (∀ n (A : AH) o b o2 p, n ≤ A.size → n ≤ b → keepH n A ((A.new o).put b o2) p = p) :=
  ⟨fun _ _ _ _ _ _ _ => rfl, fun _ _ _ _ _ _ _ _ _ => rfl, fun _ _ _ _ _ _ _ _ _ _ => rfl,
    fun _ _ _ _ => lookH_no rfl, fun _ _ _ _ => lookH_no rfl, fun _ _ _ _ _ _ => lookH_no rfl, fun _ _ _ _ => lookH_no rfl, fun _ _ _ _ _ => lookH_no rfl,
    fun _ _ _ _ _ => lookH_no rfl, fun _ _ _ _ _ _ => lookH_no rfl, fun _ _ _ _ _ _ => lookH_no rfl, fun _ _ _ _ _ _ _ => lookH_no rfl,
    fun _ _ _ _ _ _ _ _ => lookH_no rfl, fun _ _ _ _ _ _ => lookH_no rfl, fun _ _ _ _ _ _ => lookH_no rfl, fun _ _ _ _ _ _ => lookH_no rfl,
    fun _ _ _ _ _ _ => lookH_no rfl, fun _ _ _ _ _ _ => lookH_no rfl, fun _ _ _ _ _ _ => lookH_no rfl, fun _ _ _ _ _ => lookH_no rfl, fun _ _ _ _ _ => lookH_no rfl,
    fun _ _ _ _ _ _ => lookH_eff rfl, fun _ _ _ _ _ => lookH_eff rfl,
    fun n e x ts p => (by
      unfold lookH lookM
      simp only [isEff, readsAt]
      refine propext ⟨fun h => ⟨fun r hr => h.1 trivial r (by rw [hr]), h.2⟩, fun h => ⟨fun _ b hb => ?_, h.2⟩⟩
      cases hx : e.eval x with
      | map o => cases o with
        | none => rw [hx] at hb; cases hb
        | some r => rw [hx] at hb; cases hb; exact h.1 _ hx
      | _ => rw [hx] at hb; cases hb),
    fun n e t x p => (by
      unfold lookH lookV
      simp only [isEff, readsAt]
      refine propext ⟨fun h => ⟨fun r hr => h.1 trivial r.block (by rw [hr]), h.2⟩, fun h => ⟨fun _ b hb => ?_, h.2⟩⟩
      cases hx : e.eval x with
      | pointer o => cases o with
        | none => rw [hx] at hb; cases hb
        | some r => rw [hx] at hb; cases hb; exact h.1 _ hx
      | _ => rw [hx] at hb; cases hb),
    fun n s k c p => propext ⟨fun h => h.2, fun h => ⟨fun _ h => (nomatch h), h⟩⟩, fun n s p => propext ⟨fun h => h.2, fun h => ⟨fun r hr => (nomatch hr), h⟩⟩,
    fun n s p => propext ⟨fun h => h.2, fun h => ⟨fun _ h => (nomatch h), h⟩⟩,
    fun n r p hr => propext ⟨fun h => h.2, fun h => ⟨fun _ h => (by cases h; exact hr), h⟩⟩,
    fun n b o t p hr => propext ⟨fun h => h.2, fun h => ⟨fun _ h => (by cases h; exact hr), h⟩⟩,
    fun n A p => propext ⟨fun h => h.2, fun h => ⟨fun _ _ => rfl, h⟩⟩,
    fun n A b o p hn => propext ⟨fun h => h.2, fun h => ⟨fun c hc => AH.get_put_other (by omega), h⟩⟩,
    fun n A o p hn => propext ⟨fun h => h.2, fun h => ⟨fun c hc => AH.get_new_other (by omega), h⟩⟩,
    fun n A o b o2 p hn hb => propext ⟨fun h => h.2, fun h => ⟨fun c hc => (AH.get_put_other (by omega)).trans (AH.get_new_other (by omega)), h⟩⟩⟩
theorem rowK_cell {o n : Nat} {x : AObj} {cs : List Value} (h : rowK o n x = some cs) (k : Nat) (hk : k < n) : cellK (o + k) x = cs[k]? := by
  obtain ⟨c, e, rfl, h1, rfl⟩ := rowK_inv h
  show c[o + k]? = _
  simp [hk]
theorem row3 {o : Nat} {x : AObj} {a b c : Value} (h : rowK o 3 x = some [a, b, c]) : cellK o x = some a ∧ cellK (o + 1) x = some b ∧ cellK (o + 2) x = some c :=
  ⟨rowK_cell h 0 (by decide), rowK_cell h 1 (by decide), rowK_cell h 2 (by decide)⟩
theorem row2 {o : Nat} {x : AObj} {a b : Value} (h : rowK o 2 x = some [a, b]) : cellK o x = some a ∧ cellK (o + 1) x = some b :=
  ⟨rowK_cell h 0 (by decide), rowK_cell h 1 (by decide)⟩
theorem str_toList {a b : ByteArray} : (a.toList = b.toList) = (a = b) := propext ⟨fun h => str_inj h, fun h => by rw [h]⟩
/-- Two structs of a text, a yes or no, a text. -/
theorem eq_sbs {P : Program} {t t1 t2 t3 : TypeId} {n1 n2 n3 g1 g2 g3 p1 p2 p3 : String} {e1 e2 e3 : Bool} {o1 o2 o3 : Nat}
    (hu : P.underlying t = some (.struct #[⟨n1, t1, 0, e1, g1, p1, o1⟩, ⟨n2, t2, 1, e2, g2, p2, o2⟩, ⟨n3, t3, 2, e3, g3, p3, o3⟩]))
    (h1 : n1 ≠ "_") (h2 : n2 ≠ "_") (h3 : n3 ≠ "_") (k1 : tKind P t1 = some .str) (k2 : tKind P t2 = some .bool) (k3 : tKind P t3 = some .str)
    (hg : (P.stoodInHeld t || P.eqGuardType P.depth t) = false) (x y : TGlance) :
    aBin P .eql t (.agg #[.string x.1, .bool x.2.1, .string x.2.2]) (.agg #[.string y.1, .bool y.2.1, .string y.2.2]) = some (.bool (decide (x.1 = y.1 ∧ x.2.1 = y.2.1 ∧ x.2.2 = y.2.2))) := by
  have ht : tKind P t = some .struct := by unfold tKind; rw [hu]; rfl
  simp only [aBin, aEq, ht, hu, hg, aEqFields, h1, h2, h3, k1, k2, k3, str_toList]
  by_cases c1 : x.1 = y.1
  · by_cases c2 : x.2.1 = y.2.1
    · by_cases c3 : x.2.2 = y.2.2
      · simp [c1, c2, c3]
      · simp [c1, c2, c3]
    · simp [c1, c2]
  · simp [c1]
end Go.AM
