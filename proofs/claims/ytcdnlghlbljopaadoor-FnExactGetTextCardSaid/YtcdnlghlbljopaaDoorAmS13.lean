/- Soundness of the abstract machine, thirteenth part: a region that draws its order, its course in the text's order. -/
import Derived.Test.YtcdnlghlbljopaaDoorAmS12
namespace Go.AM
open Go Go.RowKit
set_option linter.unusedSimpArgs false
set_option linter.unusedVariables false
section
variable {P : Program} {ng ro base : Nat} {w0 : World}
/-- The course of a region in the text's order, up to number L. -/
structure Course (P : Program) (ng ro base : Nat) (w0 : World) (ops : Array Oper) (S : Nat → Prop) (es : Nat → Env) (As : Nat → AH) (k L : Nat) : Prop where
  step : ∀ i, k ≤ i → i < L → ∃ o, ops[i]? = some o ∧
    ((aWanted ops o (es i) = false ∧ es (i + 1) = (es i).put o.dst undef ∧ As (i + 1) = As i) ∨
     (aWanted ops o (es i) = true ∧ ∃ v, es (i + 1) = (es i).put o.dst v ∧ Held ops (some S) i o.op (es i) (As i) (As (i + 1)) ∧
       ((isEff o.op = false ∧ aOp P ro (As i).size o.op (es i) (As i) = some (v, As (i + 1))) ∨
        (isEff o.op = true ∧ OpSound P ng ro base w0 o (es i) (As i) v (As (i + 1)) ∧ Grows (As i) (As (i + 1))))))
theorem Course.nil {ops : Array Oper} {S : Nat → Prop} {es : Nat → Env} {As : Nat → AH} {k : Nat} : Course P ng ro base w0 ops S es As k k := ⟨fun i h1 h2 => absurd h2 (by omega)⟩
/-- One step ahead of a course. -/
theorem Course.cons {ops : Array Oper} {S : Nat → Prop} {es : Nat → Env} {As : Nat → AH} {k L : Nat} {e : Env} {A : AH} (h : Course P ng ro base w0 ops S es As (k + 1) L)
    (hs : ∃ o, ops[k]? = some o ∧
      ((aWanted ops o e = false ∧ es (k + 1) = e.put o.dst undef ∧ As (k + 1) = A) ∨
       (aWanted ops o e = true ∧ ∃ v, es (k + 1) = e.put o.dst v ∧ Held ops (some S) k o.op e A (As (k + 1)) ∧
         ((isEff o.op = false ∧ aOp P ro A.size o.op e A = some (v, As (k + 1))) ∨ (isEff o.op = true ∧ OpSound P ng ro base w0 o e A v (As (k + 1)) ∧ Grows A (As (k + 1))))))) :
    Course P ng ro base w0 ops S (fun i => if i = k then e else es i) (fun i => if i = k then A else As i) k L := by
  refine ⟨fun i h1 h2 => ?_⟩
  by_cases hi : i = k
  · subst hi
    simpa using hs
  · have h3 : i + 1 ≠ k := by omega
    simp only [if_neg hi, if_neg h3]
    exact h.step i (by omega) h2
/-- How a course ends: with the region's end, or with a panic. -/
def CEnd (P : Program) (ng ro base : Nat) (w0 : World) (ops : Array Oper) (es : Nat → Env) (As : Nat → AH) (n L : Nat) (x : AExit) (e' : Env) (A' : AH) : Prop :=
  (L = n ∧ x = .normal ∧ e' = es L ∧ A' = As L) ∨
  (L < n ∧ ∃ o v, x = .pan v ∧ ops[L]? = some o ∧ aWanted ops o (es L) = true ∧ isEff o.op = true ∧ OpPan P ng ro base w0 o (es L) (As L) v A' ∧ allWait ops L = true)
theorem Tr.course {ops : Array Oper} {S : Nat → Prop} : ∀ (len k : Nat) (e : Env) (A : AH) (x : AExit) (e' : Env) (A' : AH), Tr P ng ro base w0 ops S (List.range' k len) e A x e' A' →
    ∃ es As L, es k = e ∧ As k = A ∧ k ≤ L ∧ Course P ng ro base w0 ops S es As k L ∧ CEnd P ng ro base w0 ops es As (k + len) L x e' A' := by
  intro len
  induction len with
  | zero =>
    intro k e A x e' A' h
    cases h
    exact ⟨fun _ => e, fun _ => A, k, rfl, rfl, Nat.le_refl _, Course.nil, .inl ⟨by omega, rfl, rfl, rfl⟩⟩
  | succ len ih =>
    intro k e A x e' A' h
    rw [List.range'_succ] at h
    have lift : ∀ {e1 : Env} {A1 : AH} (es : Nat → Env) (As : Nat → AH) (L : Nat), es (k + 1) = e1 → As (k + 1) = A1 → k + 1 ≤ L → Course P ng ro base w0 ops S es As (k + 1) L →
        CEnd P ng ro base w0 ops es As (k + 1 + len) L x e' A' →
        (∃ o, ops[k]? = some o ∧
          ((aWanted ops o e = false ∧ es (k + 1) = e.put o.dst undef ∧ As (k + 1) = A) ∨
           (aWanted ops o e = true ∧ ∃ v, es (k + 1) = e.put o.dst v ∧ Held ops (some S) k o.op e A (As (k + 1)) ∧
             ((isEff o.op = false ∧ aOp P ro A.size o.op e A = some (v, As (k + 1))) ∨ (isEff o.op = true ∧ OpSound P ng ro base w0 o e A v (As (k + 1)) ∧ Grows A (As (k + 1))))))) →
        ∃ es As L, es k = e ∧ As k = A ∧ k ≤ L ∧ Course P ng ro base w0 ops S es As k L ∧ CEnd P ng ro base w0 ops es As (k + (len + 1)) L x e' A' := by
      intro e1 A1 es As L _ _ hL hc hend hs
      refine ⟨_, _, L, by simp, by simp, by omega, hc.cons hs, ?_⟩
      have hLk : L ≠ k := by omega
      have hn : k + (len + 1) = k + 1 + len := by omega
      rw [hn]
      unfold CEnd at hend ⊢
      simp only [if_neg hLk]
      exact hend
    cases h with
    | pass ho hw hk =>
      obtain ⟨es, As, L, h1, h2, h3, h4, h5⟩ := ih _ _ _ _ _ _ hk
      exact lift es As L h1 h2 h3 h4 h5 ⟨_, ho, .inl ⟨hw, h1, h2⟩⟩
    | quiet ho hw hn hv hd hk =>
      obtain ⟨es, As, L, h1, h2, h3, h4, h5⟩ := ih _ _ _ _ _ _ hk
      refine lift es As L h1 h2 h3 h4 h5 ⟨_, ho, .inr ⟨hw, _, h1, ?_, .inl ⟨hn, ?_⟩⟩⟩
      · rw [h2]; exact hd
      · rw [h2]; exact hv
    | eff ho hw hn hv hg hd hk =>
      obtain ⟨es, As, L, h1, h2, h3, h4, h5⟩ := ih _ _ _ _ _ _ hk
      refine lift es As L h1 h2 h3 h4 h5 ⟨_, ho, .inr ⟨hw, _, h1, ?_, .inr ⟨hn, ?_, ?_⟩⟩⟩
      · rw [h2]; exact hd
      · rw [h2]; exact hv
      · rw [h2]; exact hg
    | pan ho hw hn hv ha =>
      exact ⟨fun _ => e, fun _ => A, k, rfl, rfl, Nat.le_refl _, Course.nil, .inr ⟨by omega, _, _, rfl, ho, hw, hn, hv, ha⟩⟩
/-! What an operation without effect leaves. -/
theorem aCell_at {A H : AH} {a : Addr} {v : Value} (h : aCell A a = some v) (hH : A.get a.block ≠ .dead → H.get a.block = A.get a.block) : aCell H a = some v := by
  unfold aCell at h ⊢
  cases hg : A.get a.block with
  | dead => cases hs : a.spot <;> simp [hg, hs] at h
  | cells c e => rw [hH (by rw [hg]; simp)]; exact h
  | map es => cases hs : a.spot <;> simp [hg, hs] at h
theorem aRow_at {A H : AH} {a : Addr} {n : Nat} {cs : List Value} (h : aRow A a n = some cs) (hH : A.get a.block ≠ .dead → H.get a.block = A.get a.block) : aRow H a n = some cs := by
  unfold aRow at h ⊢
  cases hg : A.get a.block with
  | dead => cases hs : a.spot <;> simp [hg, hs] at h
  | cells c e => rw [hH (by rw [hg]; simp)]; exact h
  | map es => cases hs : a.spot <;> simp [hg, hs] at h
theorem aLoad_at {A H : AH} {t : TypeId} {a : Addr} {v : Value} (h : aLoad P A t a = some v) (hH : A.get a.block ≠ .dead → H.get a.block = A.get a.block) : aLoad P H t a = some v := by
  unfold aLoad at h ⊢
  split at h
  · split at h
    · obtain ⟨cs, hcs, rfl⟩ := Option.map_eq_some_iff.1 h
      rw [aRow_at hcs hH]; rfl
    · cases h
  · exact aCell_at h hH
  · cases h
/-- An operation without effect answers the same in a heap that agrees where it looks. -/
theorem quiet_at {nx : Nat} {op : Op} {e : Env} {A A1 : AH} {v : Value} (hn : isEff op = false) (h : aOp P ro nx op e A = some (v, A1)) (H : AH)
    (hH : ∀ b, readsAt e op = some b → A.get b ≠ .dead → H.get b = A.get b) :
    (A1 = A ∧ ∀ nx', aOp P ro nx' op e H = some (v, H)) ∨ (isNew op = true ∧ ∃ ob, A1 = A.newAt nx ob ∧ aOp P ro nx op e H = some (v, H.newAt nx ob)) := by
  cases op with
  | move x => cases h; exact .inl ⟨rfl, fun _ => rfl⟩
  | assign x => cases h; exact .inl ⟨rfl, fun _ => rfl⟩
  | pick c x y =>
    simp only [aOp] at h ⊢
    split at h
    · rename_i t ht; cases h; exact .inl ⟨rfl, fun _ => by simp [ht]⟩
    · cases h
  | alloc t =>
    simp only [aOp] at h ⊢
    split at h
    · rename_i z n hz hn; cases h; exact .inr ⟨rfl, _, rfl, by simp [hz, hn]⟩
    · cases h
  | box t x =>
    simp only [aOp] at h ⊢
    split at h
    · rename_i z n hz hn; cases h; exact .inr ⟨rfl, _, rfl, by simp [hz, hn]⟩
    · cases h
  | build t ps =>
    simp only [aOp] at h ⊢
    split at h
    · rename_i q z hq hz
      obtain ⟨cs, hcs, he⟩ := Option.map_eq_some_iff.1 h
      cases he
      exact .inl ⟨rfl, fun _ => by simp [hq, hz, hcs]⟩
    · cases h
  | buildSlice t n ps =>
    simp only [aOp] at h ⊢
    split at h
    · rename_i el sz hel hsz
      split at h
      · rename_i z hz
        split at h
        · rename_i hl
          obtain ⟨cs, hcs, he⟩ := Option.map_eq_some_iff.1 h
          cases he
          exact .inr ⟨rfl, _, rfl, by simp only [hel, hsz, hz, if_pos hl, hcs, Option.map_some]⟩
        · cases h
      · cases h
    · cases h
  | load t x =>
    simp only [aOp] at h ⊢
    split at h
    · rename_i a ha
      obtain ⟨u, hu, he⟩ := Option.map_eq_some_iff.1 h
      cases he
      rw [aLoad_at hu (hH a.block (by simp [readsAt, ha]))]
      exact .inl ⟨rfl, fun _ => rfl⟩
    · cases h
  | store t x y => cases hn
  | nilCheck x =>
    simp only [aOp] at h ⊢
    split at h
    · rename_i p hp; cases h; exact .inl ⟨rfl, fun _ => by simp [hp]⟩
    · rename_i p y z hp; cases h; exact .inl ⟨rfl, fun _ => by simp [hp]⟩
    · cases h
  | binOp op t x y t' =>
    simp only [aOp] at h ⊢
    obtain ⟨u, hu, he⟩ := Option.map_eq_some_iff.1 h
    cases he
    exact .inl ⟨rfl, fun _ => by simp [hu]⟩
  | unOp op t x =>
    simp only [aOp] at h ⊢
    obtain ⟨u, hu, he⟩ := Option.map_eq_some_iff.1 h
    cases he
    exact .inl ⟨rfl, fun _ => by simp [hu]⟩
  | convert s d x =>
    simp only [aOp, aConvert] at h ⊢
    split at h
    · rename_i k k' q n h1 h2 h3
      cases h
      exact .inl ⟨rfl, fun _ => by simp [h1, h2, h3]⟩
    · rename_i q h1 h2 h3
      cases h
      exact .inl ⟨rfl, fun _ => by simp [h1, h2, h3]⟩
    · rename_i q h1 h2 h3
      split at h
      · rename_i hb; cases h; exact .inr ⟨rfl, _, rfl, by simp [h1, h2, h3, hb]⟩
      · cases h
    · rename_i q c h1 h2 h3
      split at h
      · rename_i hb; cases h; exact .inl ⟨rfl, fun _ => by simp [h1, h2, h3, hb]⟩
      · cases h
    · rename_i a n c h1 h2 h3
      split at h
      · rename_i hb
        split at h
        · rename_i hn0; cases h; exact .inl ⟨rfl, fun _ => by simp [h1, h2, h3, hb, hn0]⟩
        · rename_i hn0
          split at h
          · rename_i cs hcs
            obtain ⟨l, hl, he⟩ := Option.map_eq_some_iff.1 h
            cases he
            have := aRow_at hcs (hH a.block (by simp [readsAt, h3, hn0]))
            exact .inl ⟨rfl, fun _ => by simp [h1, h2, h3, hb, hn0, this, hl]⟩
          · cases h
      · cases h
    · cases h
  | makeInterface t x =>
    simp only [aOp] at h ⊢
    split at h
    · cases h
    · rename_i k hne hk
      split at h
      · rename_i hp; cases h; exact .inl ⟨rfl, fun _ => by simp [hk, hp]⟩
      · cases h
    · cases h
  | makeFunc fn f c => cases h; exact .inl ⟨rfl, fun _ => rfl⟩
  | makeMap t r =>
    cases r with
    | some r => cases h
    | none => cases h; exact .inr ⟨rfl, _, rfl, rfl⟩
  | makeSlice t l c =>
    simp only [aOp, aMakeSlice] at h ⊢
    split at h
    · rename_i el sz k n k' n' h1 h2 h3 h4
      split at h
      · rename_i z hz
        split at h
        · rename_i hl
          cases h
          exact .inr ⟨rfl, _, rfl, by simp only [h1, h2, h3, h4, hz, if_pos hl]⟩
        · cases h
      · cases h
    · cases h
  | slice t x lo hi mx =>
    simp only [aOp] at h ⊢
    obtain ⟨u, hu, he⟩ := Option.map_eq_some_iff.1 h
    cases he
    refine .inl ⟨rfl, fun _ => ?_⟩
    have : aSlice P H t (e.eval x) (lo.map e.eval) (hi.map e.eval) (mx.map e.eval) = some v := by
      unfold aSlice at hu ⊢
      split at hu
      · exact hu
      · rename_i a len cap hx
        split at hu
        · rename_i sz l hh h1 h2 h3
          split at hu
          · rename_i hle
            split at hu
            · rename_i hmx
              split at hu
              · rename_i hc
                simp only [h1, h2, h3, if_pos hle, if_pos hc]; exact hu
              · rename_i hc
                split at hu
                · rename_i p
                  split at hu
                  · rename_i c0 e0 hg
                    have := hH p.block (by simp [readsAt, hx, hc]) (by rw [hg]; simp)
                    simp only [h1, h2, h3, if_pos hle, if_neg hc, this, hg]; exact hu
                  · cases hu
                · cases hu
            · rename_i v hmx
              simp only [h1, h2, h3, if_pos hle]
              exact hu
          · cases hu
        · cases hu
      · cases hu
    rw [this]; rfl
  | fieldAddr t x f =>
    simp only [aOp] at h ⊢
    split at h
    · rename_i off ft p h1 h2; cases h; exact .inl ⟨rfl, fun _ => by simp [h1, h2]⟩
    · cases h
  | field t x f =>
    simp only [aOp] at h ⊢
    split at h
    · rename_i off ft cs h1 h2
      split at h
      · rename_i n h3 h4
        split at h
        · rename_i hl; cases h; exact .inl ⟨rfl, fun _ => by simp [h1, h2, h3, h4, hl]⟩
        · cases h
      · rename_i h3
        obtain ⟨u, hu, he⟩ := Option.map_eq_some_iff.1 h
        cases he
        refine .inl ⟨rfl, fun _ => ?_⟩
        simp only [h1, h2, h3, hu, Option.map_some]
      · cases h
    · cases h
  | indexAddr t x y =>
    simp only [aOp] at h ⊢
    obtain ⟨u, hu, he⟩ := Option.map_eq_some_iff.1 h
    cases he
    exact .inl ⟨rfl, fun _ => by simp [hu]⟩
  | index t x y =>
    simp only [aOp] at h ⊢
    obtain ⟨u, hu, he⟩ := Option.map_eq_some_iff.1 h
    cases he
    exact .inl ⟨rfl, fun _ => by simp [hu]⟩
  | lookup t x y ok =>
    simp only [aOp] at h ⊢
    obtain ⟨u, hu, he⟩ := Option.map_eq_some_iff.1 h
    cases he
    refine .inl ⟨rfl, fun _ => ?_⟩
    have : aLookup P H t (e.eval x) (e.eval y) ok = some v := by
      unfold aLookup at hu ⊢
      split at hu
      · rename_i q el hm
        split at hu
        · rename_i es hes
          have : aEntries H (e.eval x) = some es := by
            unfold aEntries at hes ⊢
            split at hes
            · exact hes
            · rename_i r hx
              split at hes
              · rename_i es0 hg
                have := hH r (by simp [readsAt, hx]) (by rw [hg]; simp)
                simp only [this, hg]; exact hes
              · cases hes
            · cases hes
          rw [this]; exact hu
        · cases hu
      · cases hu
    rw [this]; rfl
  | mapUpdate t x y z => cases hn
  | extract x i =>
    simp only [aOp] at h ⊢
    split at h
    · rename_i vs hx
      obtain ⟨u, hu, he⟩ := Option.map_eq_some_iff.1 h
      cases he
      refine .inl ⟨rfl, fun _ => ?_⟩
      simp only [hx, hu, Option.map_some]
    · cases h
  | call c =>
    simp only [isEff] at hn
    simp only [aOp] at h ⊢
    split at h
    · rename_i hc
      split at h
      · rename_i t x hts hxs
        obtain ⟨u, hu, he⟩ := Option.map_eq_some_iff.1 h
        cases he
        refine .inl ⟨rfl, fun _ => ?_⟩
        have : aLen P H t (e.eval x) = some v := by
          unfold aLen at hu ⊢
          split at hu
          · first | exact hu | (rename_i h1 h2; simp only [h2]; exact hu)
          · first | exact hu | (rename_i h1 h2; simp only [h2]; exact hu)
          · first | exact hu | (rename_i h1 h2; simp only [h2]; exact hu)
          · rename_i r hx h2
            split at hu
            · rename_i es hg
              have := hH r (by simp [readsAt, hc, hxs, hx]) (by rw [hg]; simp)
              simp only [h2, this, hg]; exact hu
            · cases hu
          · cases hu
        rw [this]; rfl
      · cases h
    · rename_i hc; rw [hc] at hn; cases hn
    · rename_i hc
      obtain ⟨u, hu, he⟩ := Option.map_eq_some_iff.1 h
      cases he
      exact .inl ⟨rfl, fun _ => by simp [hu]⟩
    · cases h
  | _ => cases h
end
end Go.AM
