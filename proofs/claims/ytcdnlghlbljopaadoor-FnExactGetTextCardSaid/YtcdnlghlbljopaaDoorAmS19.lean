/- Soundness of the abstract machine, nineteenth part: all of it. -/
import Derived.Test.YtcdnlghlbljopaaDoorAmS18
import Derived.LoopN
namespace Go.AM
open Go Go.RowKit
set_option linter.unusedVariables false
set_option linter.unusedSimpArgs false
theorem aAppend_grows {P : Program} {ro : Nat} {A A1 : AH} {t : TypeId} {s x v : Value} (h : aAppend P ro A t s x = some (v, A1)) : A.size ≤ A1.size := by
  unfold aAppend at h
  repeat' split at h
  all_goals first | (cases h; done) | (cases h; exact Nat.le_refl _) | (cases h; exact Nat.le_succ _)
theorem aOp_grows {P : Program} {ro : Nat} {op : Op} {e : Env} {A A1 : AH} {v : Value} (h : aOp P ro A.size op e A = some (v, A1)) : A.size ≤ A1.size := by
  cases hn : isEff op with
  | false =>
    rcases quiet_at hn h A (fun _ _ _ => rfl) with ⟨rfl, _⟩ | ⟨_, ob, rfl, _⟩
    · exact Nat.le_refl _
    · exact Nat.le_max_left _ _
  | true =>
    cases op <;> try (cases hn; done)
    case store t x y =>
      simp only [aOp] at h
      split at h
      · obtain ⟨u, hu, he⟩ := Option.map_eq_some_iff.1 h
        cases he
        unfold aStore at hu
        repeat' split at hu
        all_goals first | (cases hu; done) | (cases hu; exact Nat.le_refl _)
      · cases h
    case mapUpdate t x y z =>
      simp only [aOp] at h
      obtain ⟨u, hu, he⟩ := Option.map_eq_some_iff.1 h
      cases he
      unfold aMapSet at hu
      repeat' split at hu
      all_goals try (cases hu; done)
      obtain ⟨u, hu, he⟩ := Option.map_eq_some_iff.1 hu
      cases he
      exact Nat.le_refl _
    case call c =>
      simp only [aOp] at h
      split at h
      · rename_i hc; simp [isEff, hc] at hn
      · split at h
        · split at h
          · exact aAppend_grows h
          · exact aAppend_grows h
          · cases h
        · cases h
      · rename_i hc; simp [isEff, hc] at hn
      · cases h
    all_goals cases h
section
variable {P : Program} {ng ro base : Nat} {w0 : World}
theorem load_ok' {m : Emb} {A : AH} {w : World} (hS : Sim ng ro base w0 m A w) {t : TypeId} {a : Addr} {v a' : Value} (ha : VRel m (.pointer (some a)) a') (h : aLoad P A t a = some v) :
    ∃ v', (do loadVar t (← asAddr a') : Sem Value).run P w = .ok v' w ∧ VRel m v v' := by
  obtain ⟨v', h1, h2⟩ := load_ok (P := P) hS ha h
  obtain ⟨b, o, rfl, rfl, _⟩ := ha.ptr_inv
  exact ⟨v', by simpa [Instr.loadAt, Instr.sureAddr, asAddr] using h1, h2⟩
theorem resVals_ok {m : Emb} {A : AH} {w : World} {e : Env} {tmps : Array Value} (hS : Sim ng ro base w0 m A w) (hE : EnvRel m e tmps) : ∀ (rs : List ResultVar) (vs : List Value), aResVals P A e rs = some vs →
    ∃ vs', VRels m vs vs' ∧ ∀ f : ResultVar → Sem Value, (∀ u, f (.tmp u) = pure (tmps.getD u undef)) → (∀ a t, f (.cell a t) = (do loadVar t (← asAddr (tmps.getD a undef)))) → (rs.mapM f).run P w = .ok vs' w := by
  intro rs
  induction rs with
  | nil => intro vs h; cases h; exact ⟨[], .nil, fun f _ _ => by simp⟩
  | cons r rs ih =>
    intro vs h
    cases r with
    | tmp t =>
      simp only [aResVals] at h
      obtain ⟨u, hu, rfl⟩ := Option.map_eq_some_iff.1 h
      obtain ⟨vs', h2, h1⟩ := ih u hu
      refine ⟨tmps.getD t undef :: vs', .cons _ _ _ _ (hE t) h2, fun f hf hc => ?_⟩
      rw [List.mapM_cons, hf]
      simp [h1 f hf hc]
    | cell a t =>
      simp only [aResVals] at h
      split at h
      · rename_i p hp
        split at h
        · rename_i v hv
          obtain ⟨u, hu, rfl⟩ := Option.map_eq_some_iff.1 h
          obtain ⟨vs', h2, h1⟩ := ih u hu
          have hr := hE a
          rw [hp] at hr
          obtain ⟨v', h3, h4⟩ := load_ok' (P := P) hS hr hv
          refine ⟨v' :: vs', .cons _ _ _ _ h4 h2, fun f hf hc => ?_⟩
          rw [List.mapM_cons, hc, Sem.run_bind, h3]
          simp [h1 f hf hc]
        · cases h
      · cases h
theorem results_ok {m : Emb} {A : AH} {w : World} {e : Env} {tmps : Array Value} (hS : Sim ng ro base w0 m A w) (hE : EnvRel m e tmps) {fn : Func} {v : Value} (h : aResults P A e fn = some v) :
    ∃ v', (results fn tmps).run P w = .ok v' w ∧ VRel m v v' := by
  unfold aResults at h
  obtain ⟨vs, hvs, rfl⟩ := Option.map_eq_some_iff.1 h
  unfold results
  obtain ⟨vs', h2, h1⟩ := resVals_ok (P := P) (tmps := tmps) hS hE _ _ hvs
  have hr : fn.results = fn.results.toList.toArray := by simp
  rw [hr, List.mapM_toArray]
  simp only [Sem.run_bind, Sem.run_map]
  refine ⟨if h : vs'.toArray.size = 1 then vs'.toArray[0] else .tuple vs'.toArray, ?_, ?_⟩
  · rw [h1]
    · simp
    · intro u; rfl
    · intro a t; rfl
  · cases h2 with
    | nil => exact .tuple _ _ .nil
    | cons v v' l l' g1 g2 =>
      cases g2 with
      | nil => exact g1
      | cons v2 v2' l2 l2' g3 g4 =>
        simp only [aTup, List.size_toArray, List.length_cons]
        rw [dif_neg (by omega)]
        exact .tuple _ _ (by simpa using VRels.cons _ _ _ _ g1 (.cons _ _ _ _ g3 g4))
theorem enter_ok {m : Emb} : ∀ {l l' : List Value}, VRels m l l' → ∀ k, EnvRel m (Env.enter l) (l'.toArray ++ Array.replicate k undef)
  | _, _, h, k => by
    intro t
    have main : ∀ {l l' : List Value}, VRels m l l' → ∀ t, VRel m (l.getD t undef) (l'.getD t undef) := by
      intro l l' h
      induction l generalizing l' with
      | nil => cases h; intro t; simpa using VRel.undef m
      | cons a l ih =>
        cases h with
        | cons v v' l l' h1 h2 =>
        intro t
        cases t with
        | zero => simpa using h1
        | succ t => simpa using ih h2 t
    have := main h t
    unfold Env.enter
    rename_i l l'
    have e : (l'.toArray ++ Array.replicate k undef).getD t undef = l'.getD t undef := by
      rw [Array.getD_eq_getD_getElem?, List.getD_eq_getElem?_getD, Array.getElem?_append]
      split
      · simp
      · rename_i hl
        have hl' : l'.length ≤ t := by simpa using hl
        rw [List.getElem?_eq_none hl', Array.getElem?_replicate]
        split <;> rfl
    rw [e]
    exact this
def RoundsSound (P : Program) (ng ro base : Nat) (w0 : World) (n : Nat) (c : Code) (e : Env) (A : AH) (x : AExit) (e' : Env) (A' : AH) : Prop :=
  ∀ (m : Emb) (w : World) (a : Act) (Q : Exit → Act → World → Prop), Sim ng ro base w0 m A w → EnvRel m e a.tmps → dstsOk a.tmps.size ng c = true → Ends ng ro base w0 m A w a A' e' Q x → Code.rounds P c Q n a w
def JSound (P : Program) (ng ro base : Nat) (w0 : World) : Judg → AH → Out → AH → Prop
  | .code c e, A, .code x e', A' => CodeSound P ng ro base w0 c e A x e' A' ∧ (∀ b, c = .loop b → ∃ n, RoundsSound P ng ro base w0 n b e A x e' A')
  | .ops ops none l e, A, .code x e', A' => OpsSound P ng ro base w0 ops l e A x e' A'
  | .ops ops (some S) l e, A, .code x e', A' => Tr P ng ro base w0 ops S l e A x e' A'
  | .call f args, A, .call r, A' => CallSound P ng ro base w0 f args A r A'
  | _, _, _, _ => False
theorem Ends.ne {m : Emb} {A : AH} {w : World} {a : Act} {A' : AH} {e' : Env} {Q Q' : Exit → Act → World → Prop} {x : AExit} (h : Ends ng ro base w0 m A w a A' e' Q x) (hx : x ≠ .normal) (hQ : ∀ y a w, y ≠ .normal → Q y a w → Q' y a w) :
    Ends ng ro base w0 m A w a A' e' Q' x := by
  intro m' a' w' hs h1 h2
  have := h m' a' w' hs h1 h2
  cases x with
  | normal => exact absurd rfl hx
  | exit id => exact fun hE => hQ _ _ _ (by simp) (this hE)
  | ret => exact fun hE => hQ _ _ _ (by simp) (this hE)
  | pan v => exact fun v' hv => hQ _ _ _ (by simp) (this v' hv)
theorem then_ne {K : Act → World → Prop} {Q : Exit → Act → World → Prop} : ∀ (y : Exit) (a : Act) (w : World), y ≠ .normal → Q y a w → Exit.then K Q y a w := by
  intro y a w hy h
  cases y <;> first | exact absurd rfl hy | exact h
theorem Big.sound {X : FuncId → List Value → AH → ARes → AH → Prop} (hng : ng = P.globals.size) (hm : P.follows .mixedOrders = true)
    (hX : ∀ f args A r A', X f args A r A' → CallSound P ng ro base w0 f args A r A' ∧ A.size ≤ A'.size) {j : Judg} {A : AH} {o : Out} {A' : AH} (h : Big P ro X j A o A') : JSound P ng ro base w0 j A o A' ∧ A.size ≤ A'.size := by
  have nl : ∀ {c : Code} {R : Code → Prop}, (∀ b, c ≠ .loop b) → ∀ b, c = .loop b → R b := fun h b hb => absurd hb (h b)
  induction h with
  | skip => exact ⟨⟨fun m w a Q hS hE _ hK => wp_skip (hK m a w (.refl hS) rfl rfl hE), nl (by simp)⟩, Nat.le_refl _⟩
  | seq _ _ ih1 ih2 =>
    rename_i o _ _ _
    cases o with
    | call r => exact ih2.1.elim
    | code x e2 =>
    refine ⟨⟨fun m w a Q hS hE hd hK => ?_, nl (by simp)⟩, Nat.le_trans ih1.2 ih2.2⟩
    simp only [dstsOk, Bool.and_eq_true] at hd
    refine wp_seq (ih1.1.1 m w a _ hS hE hd.1 fun m' a' w' hs h1 h2 hE' => ?_)
    exact ih2.1.1 m' w' a' Q hs.sim hE' (by rw [h1]; exact hd.2) (hK.step hs h1 h2)
  | seqx _ hx ih =>
    refine ⟨⟨fun m w a Q hS hE hd hK => ?_, nl (by simp)⟩, ih.2⟩
    simp only [dstsOk, Bool.and_eq_true] at hd
    exact wp_seq (ih.1.1 m w a _ hS hE hd.1 (hK.ne hx then_ne))
  | cond hc _ ih =>
    rename_i c a0 b0 e A t o A2 _
    cases o with
    | call r => exact ih.1.elim
    | code x e2 =>
    refine ⟨⟨fun m w a Q hS hE hd hK => ?_, nl (by simp)⟩, ih.2⟩
    simp only [dstsOk, Bool.and_eq_true] at hd
    have hev := hE.eval hS hd.1.1
    rw [hc] at hev
    have : a.eval c = .bool t := by
      generalize a.eval c = v' at hev
      cases hev; rfl
    refine wp_cond this ?_
    have := ih.1.1 m w a Q hS hE (by cases t <;> simp [hd.1.2, hd.2]) hK
    exact this
  | block _ ih =>
    refine ⟨⟨fun m w a Q hS hE hd hK => ?_, nl (by simp)⟩, ih.2⟩
    simp only [dstsOk] at hd
    refine wp_block (ih.1.1 m w a _ hS hE hd fun m' a' w' hs h1 h2 hE' => ?_)
    simp only [Exit.inBlock, if_true]
    exact hK m' a' w' hs h1 h2 hE'
  | blockx _ hx ih =>
    rename_i id a0 e A x e2 A2 _
    refine ⟨⟨fun m w a Q hS hE hd hK => ?_, nl (by simp)⟩, ih.2⟩
    simp only [dstsOk] at hd
    refine wp_block (ih.1.1 m w a _ hS hE hd fun m' a' w' hs h1 h2 => ?_)
    have := hK m' a' w' hs h1 h2
    cases x with
    | normal => exact this
    | exit id' =>
      intro hE'
      simp only [Exit.inBlock]
      rw [if_neg (fun e => hx (by rw [e]))]
      exact this hE'
    | ret => exact this
    | pan v => exact this
  | loop _ _ ih1 ih2 =>
    rename_i a0 e A e1 A1 o A2 _ _
    cases o with
    | call r => exact ih2.1.elim
    | code x e2 =>
    obtain ⟨n, hn⟩ := ih2.1.2 a0 rfl
    have hr : RoundsSound P ng ro base w0 (n + 1) a0 e A x e2 A2 := by
      intro m w a Q hS hE hd hK
      rw [rounds_succ]
      refine ih1.1.1 m w a _ hS hE hd fun m' a' w' hs h1 h2 hE' => ?_
      exact hn m' w' a' Q hs.sim hE' (by rw [h1]; exact hd) (hK.step hs h1 h2)
    refine ⟨⟨fun m w a Q hS hE hd hK => wp_loop_rounds (n + 1) (hr m w a Q hS hE (by simpa [dstsOk] using hd) hK), fun b hb => ?_⟩, Nat.le_trans ih1.2 ih2.2⟩
    cases hb
    exact ⟨n + 1, hr⟩
  | loopx _ hx ih =>
    rename_i a0 e A x e2 A2 _
    have hr : RoundsSound P ng ro base w0 1 a0 e A x e2 A2 := by
      intro m w a Q hS hE hd hK
      rw [rounds_succ]
      exact ih.1.1 m w a _ hS hE hd (hK.ne hx then_ne)
    refine ⟨⟨fun m w a Q hS hE hd hK => wp_loop_rounds 1 (hr m w a Q hS hE (by simpa [dstsOk] using hd) hK), fun b hb => ?_⟩, ih.2⟩
    cases hb
    exact ⟨1, hr⟩
  | exit => exact ⟨⟨fun m w a Q hS hE _ hK => wp_exit (hK m a w (.refl hS) rfl rfl hE), nl (by simp)⟩, Nat.le_refl _⟩
  | ret => exact ⟨⟨fun m w a Q hS hE _ hK => wp_ret (hK m a w (.refl hS) rfl rfl hE), nl (by simp)⟩, Nat.le_refl _⟩
  | region _ ih =>
    rename_i id ops e A o A2 _
    cases o with
    | call r => exact ih.1.elim
    | code x e2 =>
    refine ⟨⟨fun m w a Q hS hE hd hK => wp_region (ih.1 m w a Q hS hE ?_ hK), nl (by simp)⟩, ih.2⟩
    unfold dstsOk at hd
    exact List.all_eq_true.1 hd
  | drawn S hk _ ih =>
    rename_i id ops e A o A2 _
    cases o with
    | call r => exact ih.1.elim
    | code x e2 => exact ⟨⟨drawn_sound hm hk ih.1, nl (by simp)⟩, ih.2⟩
  | nil =>
    rename_i ops D e A
    cases D with
    | none => exact ⟨OpsSound.nil, Nat.le_refl _⟩
    | some S => exact ⟨Tr.nil, Nat.le_refl _⟩
  | pass ho hw _ ih =>
    rename_i ops D i l e A o r A2 _
    cases r with
    | call r => cases D <;> exact ih.1.elim
    | code x e2 =>
    cases D with
    | none => exact ⟨OpsSound.pass ho hw ih.1, ih.2⟩
    | some S => exact ⟨Tr.pass ho hw ih.1, ih.2⟩
  | op ho hw hv hd _ ih =>
    rename_i ops D i l e A o v A1 r A2 _
    have hg := aOp_grows hv
    cases r with
    | call r => cases D <;> exact ih.1.elim
    | code x e2 =>
    cases D with
    | none => exact ⟨OpsSound.op ho hw (opSound_of hv) ih.1, Nat.le_trans hg ih.2⟩
    | some S =>
      cases hn : isEff o.op with
      | false => exact ⟨Tr.quiet ho hw hn hv hd ih.1, Nat.le_trans hg ih.2⟩
      | true => exact ⟨Tr.eff ho hw hn (opSound_of hv) hg hd ih.1, Nat.le_trans hg ih.2⟩
  | call ho hw ht _ hd _ ih1 ih2 =>
    rename_i ops D i l e A o f args v A1 r A2 _ _
    have hs := opSound_call (P := P) (ng := ng) (ro := ro) (base := base) (w0 := w0) ht ih1.1
    have hn : isEff o.op = true := by
      cases hop : o.op <;> rw [hop] at ht <;> simp only [aTarget] at ht <;> try (cases ht; done)
      split at ht
      · rename_i hc; simp [isEff, hc]
      · cases ht
    cases r with
    | call r => cases D <;> exact ih2.1.elim
    | code x e2 =>
    cases D with
    | none => exact ⟨OpsSound.op ho hw hs ih2.1, Nat.le_trans ih1.2 ih2.2⟩
    | some S => exact ⟨Tr.eff ho hw hn hs ih1.2 hd ih2.1, Nat.le_trans ih1.2 ih2.2⟩
  | callp ho hw ht _ hd ih =>
    rename_i ops D i l e A o f args v A1 _
    have hs := opPan_call (P := P) (ng := ng) (ro := ro) (base := base) (w0 := w0) ht ih.1
    have hn : isEff o.op = true := by
      cases hop : o.op <;> rw [hop] at ht <;> simp only [aTarget] at ht <;> try (cases ht; done)
      split at ht
      · rename_i hc; simp [isEff, hc]
      · cases ht
    cases D with
    | none => exact ⟨OpsSound.pan ho hw hs, ih.2⟩
    | some S => exact ⟨Tr.pan ho hw hn hs (hd rfl), ih.2⟩
  | panic ho hw hx hv => exact ⟨OpsSound.pan ho hw (opPan_panic hx hv), Nat.le_refl _⟩
  | func hf hb hnm hd ha _ hx hr ih =>
    rename_i f args fn c e2 x A A2 v _
    refine ⟨fun m w args' hS hA => .inl ⟨?_, ?_⟩, ih.2⟩
    · simp [callFunc, hf, hb]
      exact fun e => by rw [e] at hnm; simp at hnm
    · refine calls_of_wp hf hb (ih.1.1 m w _ _ hS (enter_ok hA _) ?_ ?_)
      · have hl := hA.length
        have : (args'.toArray ++ Array.replicate (fn.ntmps - args'.toArray.size) undef).size = fn.ntmps := by simp; omega
        rw [this, hng]; exact hd
      · intro m' a' w' hs h1 h2
        rcases hx with rfl | rfl
        · intro hE'
          obtain ⟨v', g1, g2⟩ := results_ok (P := P) hs.sim hE' hr
          exact ⟨h2, v', g1, m', hs, g2⟩
        · intro hE'
          obtain ⟨v', g1, g2⟩ := results_ok (P := P) hs.sim hE' hr
          exact ⟨h2, v', g1, m', hs, g2⟩
  | funcp hf hb hnm hd ha _ ih =>
    rename_i f args fn c e2 A A2 v _
    refine ⟨fun m w args' hS hA => .inl ⟨?_, ?_⟩, ih.2⟩
    · simp [callFunc, hf, hb]
      exact fun e => by rw [e] at hnm; simp at hnm
    · refine calls_of_wp hf hb (ih.1.1 m w _ _ hS (enter_ok hA _) ?_ ?_)
      · have hl := hA.length
        have : (args'.toArray ++ Array.replicate (fn.ntmps - args'.toArray.size) undef).size = fn.ntmps := by simp; omega
        rw [this, hng]; exact hd
      · intro m' a' w' hs h1 h2 v' hv'
        exact ⟨h2, m', v', rfl, hs, hv'⟩
  | ext h => exact hX _ _ _ _ _ h
end
end Go.AM
