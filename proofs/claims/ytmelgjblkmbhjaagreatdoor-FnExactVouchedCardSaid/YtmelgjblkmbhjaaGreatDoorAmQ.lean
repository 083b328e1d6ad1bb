/- Entry, fourth part: any parameters; tables that are laid; a law's row from its reckoning. -/
import Derived.Test.YtmelgjblkmbhjaaGreatDoorAmP
import Derived.Test.YtmelgjblkmbhjaaGreatDoorAmL
import Derived.WideShapes
import Derived.ChangeShapes
import Derived.Handed
import Derived.MakeChecks
import Derived.OpenShut
import Derived.ProofKit
namespace Go.AM
open Go Go.RowKit Go.ChangeShapes Go.WideShapes
set_option linter.unusedVariables false
set_option linter.unusedSimpArgs false
set_option linter.unusedVariables false
/-! ### Parameters -/
structure ArgL (P : Program) (t : TypeId) (α : Type) (AV : AH → α → Value → Prop) (sz : α → Prop) : Prop where
  ext : ∀ {A A' : AH} {x : α} {v : Value}, AV A x v → Ext A A' → AV A' x v
  lay : ∀ {H : Type} {enc : TypeId × Value → H} {ng : Nat} {W : World} {m : Emb} {A : AH} {base : Nat} {v : Value} {d : DataW H} {p : List MemPlace}, Value.okWide P W .any base t v → DataW.Trod enc P W 0 (fun _ => true) true t v d p →
    (∀ n ∈ d.weights P t, n ≤ reachBytes) → SimR ng W m A → ∃ m' A' x u, SimR ng W m' A' ∧ m.Le m' ∧ Ext A A' ∧ AV A' x u ∧ VRel m' u v ∧ sz x
/-- A value of one cell; a struct. -/
def Cell1 {α : Type} [Dat α] (A : AH) (x : α) (v : Value) : Prop := ∃ F, Dat.rep A x [v] F
def CellN {α : Type} [Dat α] (A : AH) (x : α) (v : Value) : Prop := ∃ cs F, v = .agg cs.toArray ∧ Dat.rep A x cs F
section
variable {P : Program} {t : TypeId} {α : Type} [Dat α] {isd : ∀ H : Type, DataW H → α → Prop} {sz : α → Prop}
theorem ArgL.cell (h : LayT P t α isd sz) (hc : ∀ (W : World) (base : Nat) (v : Value), Value.okWide P W .any base t v → v.cells = #[v]) (hw : Dat.w α = 1) : ArgL P t α Cell1 sz := by
  refine ⟨fun ⟨F, hr⟩ hE => ⟨F, Dat.ext hr hE⟩, fun {H enc ng W m A base v d p} hok ht hwt hS => ?_⟩
  obtain ⟨fuel, ht⟩ := ht
  rw [hc W base v hok] at ht
  obtain ⟨m', A', x, cs', F, g1, g2, g3, g4, g5, g6, g7, g8⟩ := h.lay fuel _ (d, p) ht hwt hS
  cases g5 with
  | cons u _ l _ h1 h2 =>
    cases h2
    exact ⟨m', A', x, u, g1, g2, g3, ⟨F, g4⟩, h1, g8⟩
theorem ArgL.struct {fs : Array Field} (h : LayT P t α isd sz) (hu : P.underlying t = some (.struct fs)) : ArgL P t α CellN sz := by
  refine ⟨fun ⟨cs, F, e, hr⟩ hE => ⟨cs, F, e, Dat.ext hr hE⟩, fun {H enc ng W m A base v d p} hok ht hwt hS => ?_⟩
  obtain ⟨cs, rfl, _⟩ := okWide_struct hu hok
  obtain ⟨fuel, ht⟩ := ht
  obtain ⟨m', A', x, cs', F, g1, g2, g3, g4, g5, g6, g7, g8⟩ := h.lay fuel _ (d, p) ht hwt hS
  exact ⟨m', A', x, .agg cs'.toArray, g1, g2, g3, ⟨cs', F, rfl, g4⟩, .agg _ _ (by simpa [Value.cells] using g5) (by simpa using g6), g8⟩
theorem okWide_cells_int {k : IntKind} (hu : P.underlying t = some (.int k)) (W : World) (base : Nat) (v : Value) (h : Value.okWide P W .any base t v) : v.cells = #[v] := by obtain ⟨n, rfl⟩ := okWide_int hu h; rfl
theorem okWide_cells_str (hu : P.underlying t = some .string) (W : World) (base : Nat) (v : Value) (h : Value.okWide P W .any base t v) : v.cells = #[v] := by obtain ⟨n, rfl⟩ := okWide_string hu h; rfl
theorem okWide_cells_slice {e : TypeId} (hu : P.underlying t = some (.slice e)) (W : World) (base : Nat) (v : Value) (h : Value.okWide P W .any base t v) : v.cells = #[v] := by obtain ⟨a, n, c, rfl⟩ := okWide_slice hu h; rfl
end
structure ArgsL (P : Program) (ts : List TypeId) (Q : AH → List Value → Prop) : Prop where
  lay : ∀ {H : Type} {enc : TypeId × Value → H} {ng : Nat} {W : World} {m : Emb} {A : AH} {base : Nat} {vs : List Value} {ds : List (DataW H)} {ps : List MemPlace},
    (∀ (j : Nat) t v, ts[j]? = some t → vs[j]? = some v → Value.okWide P W .any base t v) → DataW.TrodAll enc P W 0 (fun _ => true) true ts vs ds ps → (∀ n ∈ DataW.weightsEach P ts ds, n ≤ reachBytes) → SimR ng W m A →
    ∃ m' A' us, SimR ng W m' A' ∧ m.Le m' ∧ Ext A A' ∧ Q A' us ∧ VRels m' us vs
section
variable {P : Program}
theorem ArgsL.nil : ArgsL P [] (fun _ us => us = []) := by
  refine ⟨fun {H enc ng W m A base vs ds ps} _ ht _ hS => ?_⟩
  cases vs with
  | nil => exact ⟨m, A, [], hS, .refl m, Ext.refl A, rfl, .nil⟩
  | cons v vs => cases ds <;> exact ht.elim
theorem ArgsL.cons {t : TypeId} {ts : List TypeId} {α : Type} {AV : AH → α → Value → Prop} {sz : α → Prop} {Q : AH → List Value → Prop} (h : ArgL P t α AV sz) (k : ArgsL P ts Q) :
    ArgsL P (t :: ts) (fun A us => ∃ x u us', us = u :: us' ∧ AV A x u ∧ sz x ∧ Q A us') := by
  refine ⟨fun {H enc ng W m A base vs ds ps} hok ht hw hS => ?_⟩
  cases vs with
  | nil => cases ds <;> exact ht.elim
  | cons v vs =>
    cases ds with
    | nil => exact ht.elim
    | cons d ds =>
      obtain ⟨p, q, h1, h2, _⟩ := ht
      simp only [DataW.weightsEach] at hw
      obtain ⟨m1, A1, x, u, g1, g2, g3, g4, g5, g6⟩ := h.lay (hok 0 t v rfl rfl) h1 (fun n hn => hw n (List.mem_append_left _ hn)) hS
      obtain ⟨m2, A2, us, k1, k2, k3, k4, k5⟩ := k.lay (fun j t v hj hv => hok (j + 1) t v hj hv) h2 (fun n hn => hw n (List.mem_append_right _ hn)) g1
      exact ⟨m2, A2, u :: us, k1, g2.trans k2, g3.trans k3, ⟨x, u, us, rfl, h.ext g4 k3, g6, k4⟩, .cons _ _ _ _ (g5.mono k2) k5⟩
end
/-! ### Tables -/
/-- A package-level variable's cells may be looked at. -/
theorem SimR.setGlob {ng : Nat} {W : World} {m : Emb} {A : AH} (h : SimR ng W m A) {g : Nat} (hg : g < ng) {c : List Value} {c' : Array Value} {el : TypeId} {fz : Nat × Nat} (hh : W.heap[g]? = some (.cells c' el fz)) (hk : m.k g = c'.size)
    (he : m.e g = 1) (hc : VRels m c c'.toList) (h1 : ∀ v ∈ c, v.oneCell' = true) : SimR ng W m (A.put g (.cells c 1)) := by
  obtain ⟨d, r0, s0⟩ := h.glob g hg
  have hlive : ∀ b, (A.put g (.cells c 1)).get b ≠ .dead → b ≠ g → A.get b ≠ .dead := fun b hb hne => by rwa [AH.get_put_other hne] at hb
  have hgs : g < A.size := h.dlt g d
  refine ⟨h.glob, h.dlt, ?_, ?_, ?_, ?_, ?_, h.bl, Nat.le_refl _, h.old⟩
  · intro b c0 e0 hb
    by_cases hbg : b = g
    · subst hbg
      rw [AH.get_put_self] at hb
      cases hb
      refine ⟨d, c', el, fz, by rw [r0]; exact hh, he, hk, ?_, ?_, fun hro => absurd hgs (by have hro' : A.size ≤ b := hro; omega)⟩
      · rw [s0]; have := hc.length; simp only [Array.length_toList] at this; omega
      · rw [s0]
        have := CRel.of hc h1
        simpa using this
    · rw [AH.get_put_other hbg] at hb
      obtain ⟨q1, c1, el1, fz1, q2, q3, q4, q5, q6, q7⟩ := h.cells b c0 e0 hb
      exact ⟨q1, c1, el1, fz1, q2, q3, q4, q5, q6, q7⟩
  · intro b es hb
    by_cases hbg : b = g
    · subst hbg; rw [AH.get_put_self] at hb; cases hb
    · rw [AH.get_put_other hbg] at hb; exact h.maps b es hb
  · intro b hb hlo
    by_cases hbg : b = g
    · subst hbg; exact absurd hgs (by have hro' : A.size ≤ b := hlo; omega)
    · exact h.rw b (hlive b hb hbg) hlo
  · intro b b' hb hb' hlo hlo' e
    by_cases hbg : b = g
    · subst hbg; exact absurd hgs (by have hro' : A.size ≤ b := hlo; omega)
    · by_cases hbg' : b' = g
      · subst hbg'; exact absurd hgs (by have hro' : A.size ≤ b' := hlo'; omega)
      · exact h.inj b b' (hlive b hb hbg) (hlive b' hb' hbg') hlo hlo' e
  · intro b hb hlo
    by_cases hbg : b = g
    · subst hbg
      rw [r0]
      rcases Nat.lt_or_ge b W.heap.size with h' | h'
      · exact h'
      · rw [Array.getElem?_eq_none h'] at hh; cases hh
    · exact h.lo b (hlive b hb hbg) hlo
/-- The start, with the variables' rows. -/
def SimG (ng : Nat) (W : World) (m : Emb) (A : AH) : Prop :=
  SimR ng W m A ∧ ng ≤ A.size ∧ (∀ g, g < ng → m.e g = 1 ∧ m.k g = match W.heap[g]? with | some (.cells c _ _) => c.size | _ => 0)
theorem SimR.zero (ng : Nat) (W : World) : SimR ng W ⟨fun b => b < ng, fun b => b, fun _ => 0, fun b => match W.heap[b]? with | some (.cells c _ _) => c.size | _ => 0, fun _ => 1⟩ ⟨fun _ => .dead, ng⟩ :=
  ⟨fun g hg => ⟨hg, rfl, rfl⟩, fun b hb => hb, fun b c e h => (by cases h), fun b es h => (by cases h), fun b h => absurd rfl h, fun b b' h => absurd rfl h, fun b h => absurd rfl h, Nat.le_refl _, Nat.le_refl _, Below.refl _ _⟩
theorem SimG.start (ng : Nat) (W : World) : ∃ m A, SimG ng W m A ∧ ∀ b, A.get b = .dead :=
  ⟨_, _, ⟨SimR.zero ng W, Nat.le_refl _, fun g hg => ⟨rfl, rfl⟩⟩, fun b => rfl⟩
/-- One table: its own row, and its data in blocks that are no variable's. -/
theorem SimG.table {ng : Nat} {W : World} {m : Emb} {A : AH} (h : SimG ng W m A) {P : Program} {n : String} {g : Nat} {t : TypeId} {cs : Array Value} {fuel : Nat} {d : DataW Unit} {p : List MemPlace} {α : Type} [Dat α] {isd : ∀ H : Type, DataW H → α → Prop} {sz : α → Prop}
    (hL : LayT P t α isd sz) (hg : g < ng) (hn : P.globalNamed n = some g) (hv : W.var? P n = some cs) (ht : DataW.trod (fun _ => ()) P W 0 (fun _ => true) false fuel t cs.toList = some (d, p)) (hw : ∀ k ∈ d.weights P t, k ≤ reachBytes)
    (hd : A.get g = .dead) (hF : ∀ (A' : AH) x c F, Dat.rep (α := α) A' x c F → ∀ b ∈ F, A'.get b ≠ .dead) :
    ∃ m' A' x c F, SimG ng W m' A' ∧ A'.get g = .cells c 1 ∧ Dat.rep A' x c F ∧ (∀ b ∈ F, b ≠ g) ∧ isd Unit d x ∧ A.size ≤ A'.size ∧ ∀ b, b < A.size → b ≠ g → A'.get b = A.get b := by
  obtain ⟨hS, hs, hek⟩ := h
  obtain ⟨m1, A1, x, c, F, g1, g2, g3, g4, g5, g6, g7, g8⟩ := hL.lay fuel _ (d, p) ht hw hS
  obtain ⟨dg, _, _⟩ := hS.glob g hg
  have hgA : g < A.size := hS.dlt g dg
  have hd1 : A1.get g = .dead := (g3.get g hgA).trans hd
  have hrow : ∃ el fz, W.heap[g]? = some (.cells cs el fz) := by
    unfold World.var? at hv
    rw [hn] at hv
    simp only [Option.bind_some] at hv
    split at hv
    · cases hv; exact ⟨_, _, ‹_›⟩
    · cases hv
  obtain ⟨el, fz, hrow⟩ := hrow
  obtain ⟨e1, k1⟩ := hek g hg
  rw [hrow] at k1
  have hek1 : ∀ g', g' < ng → m1.e g' = 1 ∧ m1.k g' = match W.heap[g']? with | some (.cells c _ _) => c.size | _ => 0 := fun g' hg' => by
    obtain ⟨dg', _, _⟩ := hS.glob g' hg'
    rw [g2.e g' dg', g2.k g' dg']
    exact hek g' hg'
  have hne : ∀ b ∈ F, b ≠ g := fun b hb e => by subst e; exact hF _ _ _ _ g4 b hb hd1
  refine ⟨m1, A1.put g (.cells c 1), x, c, F, ⟨g1.setGlob hg hrow (by rw [g2.k g dg]; exact k1) (by rw [g2.e g dg]; exact e1) g5 g6, Nat.le_trans hs g3.size, hek1⟩, AH.get_put_self _ _ _,
    Dat.frame g4 fun b hb => ⟨AH.get_put_other (hne b hb), Dat.bound g4 b hb⟩, hne, g7, g3.size, fun b hb hbg => (AH.get_put_other hbg).trans (g3.get b hb)⟩
/-- What is read says what it is. -/
def Fun1 {α : Type} (isd : ∀ H : Type, DataW H → α → Prop) : Prop := ∀ (H : Type) (d : DataW H) (x y : α), isd H d x → isd H d y → x = y
/-! ### A law's row -/
theorem law_returns {C : Checked} {X : Nat → FuncId → List Value → AH → ARes → AH → Prop} {f : FuncId} {fn : Func} {c : Code} {s : ChangeSpec} {ts : List TypeId} {G : AH → Prop} {Q : AH → List Value → Prop} {apart handsOn : Bool} {tb : TypeId}
    (hf : C.prog.funcs[f]? = some fn) (hb : fn.body = some c) (hnm : (fn.name == "runtime.NumGoroutine") = false) (hm : C.prog.follows .mixedOrders = true) (hX : XSound C.prog X)
    (hts : fn.params.toList = ts) (hrt : fn.resultTypes = #[tb]) (hub : C.prog.underlying tb = some .bool) (hlo : laidOutB C.prog = true) (hrd : (ts.all fun t => C.prog.readableRec t && decide (t < C.prog.types.size)) = true) (hvr : varsRowed C.prog s.vars = true)
    (hs : ∀ (H : Type) (ds gs : List (DataW H)), ds.length = ts.length → gs.length = s.vars.length → s.fn H (ds ++ gs) = { results := [.lit (.bool true)], args := ds, vars := gs })
    (hA : ArgsL C.prog ts Q) (hG : ∀ {A A' : AH}, G A → Ext A A' → G A')
    (hC : ∀ (A : AH) (us : List Value), G A → Q A us → ACalls C.prog A.size (X A.size) f us A (fun r _ => r = .ret (.bool true)))
    {H : Type} {enc : TypeId × Value → H} {W : World} {base : Nat} {args : Array Value} {ds gs : List (DataW H)} {before : List MemPlace}
    (hval : ∀ (j : Nat) t v, fn.params[j]? = some t → args[j]? = some v → Value.okWide C.prog W .any base t v)
    (hW : DataW.Whole enc C.prog fn.params.toList s.vars apart W args.toList ds gs before)
    (hsz : (DataW.weightsEach C.prog (fn.params.toList ++ s.plain.varTypes C.prog) (ds ++ gs)).all (· ≤ reachBytes) = true)
    {m : Emb} {A : AH} (hS : SimR C.prog.globals.size W m A) (hGA : G A) :
    Calls C.prog f args W fun e W' => ∃ v, e = .returned v ∧ s.post enc C.prog fn apart true handsOn false W args v W' := by
  have hW' := hW
  obtain ⟨p, q, hT, hV, rfl, hfz, hnd⟩ := hW
  rw [hts] at hT hsz
  have hlen : ∀ {ts : List TypeId} {vs : List Value} {ds : List (DataW H)} {ps : List MemPlace}, DataW.TrodAll enc C.prog W 0 (fun _ => true) true ts vs ds ps → ds.length = ts.length := by
    intro ts
    induction ts with
    | nil => intro vs ds ps h; cases vs <;> cases ds <;> first | rfl | exact h.elim
    | cons t ts ih =>
      intro vs ds ps h
      cases vs with
      | nil => cases ds <;> exact h.elim
      | cons v vs => cases ds with
        | nil => exact h.elim
        | cons d ds => obtain ⟨_, _, _, h2, _⟩ := h; simp [ih h2]
  have hlenV : ∀ {ns : List String} {gs : List (DataW H)} {ps : List MemPlace}, DataW.TrodVars enc C.prog W (fun _ => true) ns gs ps → gs.length = ns.length := by
    intro ns
    induction ns with
    | nil => intro gs ps h; cases gs with | nil => rfl | cons g gs => exact h.elim
    | cons n ns ih => intro gs ps h; cases gs with
      | nil => exact h.elim
      | cons g gs => obtain ⟨_, _, _, _, _, _, _, _, _, _, h2, _⟩ := h; simp [ih h2]
  have hwe : ∀ {ts us : List TypeId} {ds gs : List (DataW H)}, ds.length = ts.length → ∀ k ∈ DataW.weightsEach C.prog ts ds, k ∈ DataW.weightsEach C.prog (ts ++ us) (ds ++ gs) := by
    intro ts
    induction ts with
    | nil => intro us ds gs h k hk; cases ds <;> simp [DataW.weightsEach] at hk
    | cons t ts ih =>
      intro us ds gs h k hk
      cases ds with
      | nil => simp [DataW.weightsEach] at hk
      | cons d ds =>
        simp only [DataW.weightsEach, List.cons_append, List.mem_append] at hk ⊢
        rcases hk with hk | hk
        · exact .inl hk
        · exact .inr (ih (by simpa using h) k hk)
  obtain ⟨m', A', us, g1, g2, g3, g4, g5⟩ := hA.lay (fun j t v hj hv => hval j t v (by rw [← hts] at hj; simpa using hj) (by simpa using hv)) hT (fun k hk => by
    have := List.all_eq_true.1 hsz k (hwe (hlen hT) k hk)
    simpa using this) hS
  have hrun := law_calls (m := m') hf hb hnm hm hX g1 g5 (hC A' us (hG hGA g3) g4)
  have hargs : args.toList.toArray = args := by simp
  rw [hargs] at hrun
  refine hrun.mono fun e W' ⟨he, bel⟩ => ?_
  subst he
  have e1 := hs H ds gs (hlen hT) (hlenV hV)
  refine ⟨_, rfl, ds, gs, _, [], p, q, hW', ?_, ?_, ?_, bel.frame _, fun h => by cases h⟩
  · rw [e1, hrt]; exact trodAll_mk1 (shut_bool hub _)
  · rw [e1, hts]; exact args_stay hlo bel hrd hT
  · rw [e1]; exact Below.trodVars hlo bel hvr hV
end Go.AM
