/- Soundness of the abstract machine, eleventh part: one operation. -/
import Derived.Test.YtcdnlghlbljopaaDoorAmS10
namespace Go.AM
open Go Go.RowKit
section
variable {P : Program} {ng ro base : Nat} {w0 : World} {m : Emb} {A : AH} {w : World} {e : Env} {a : Act}
/-- The world's operation does what the abstract one does. -/
def Does (P : Program) (ng ro base : Nat) (w0 : World) (m : Emb) (A : AH) (w : World) (n0 : Nat) (o : Oper) (a : Act) (v : Value) (A1 : AH) : Prop :=
  ∃ m' w' n v', (execOp a.eval o).run P w = .ok n w' ∧ (n = .value v' ∨ (n = .skip ∧ v' = undef)) ∧ Step ng ro base w0 m A w m' A1 w' ∧ VRel m' v v' ∧ (DomOk m m' n0 ∨ DomOk m m' A.size)
theorem Does.pure (hS : Sim ng ro base w0 m A w) {n0 : Nat} {o : Oper} {v v' : Value} (h : (execOp a.eval o).run P w = .ok (.value v') w) (hv : VRel m v v') : Does P ng ro base w0 m A w n0 o a v A :=
  ⟨m, w, _, v', h, .inl rfl, .refl hS, hv, .inl .refl⟩
theorem VRels.evals (xs : List Operand) (hx : ∀ x ∈ xs, VRel m (e.eval x) (a.eval x)) : VRels m (xs.map e.eval) (xs.map a.eval) :=
  VRels.map _ _ _ hx
theorem ORel.eval (x : Option Operand) (hx : ∀ y, x = some y → VRel m (e.eval y) (a.eval y)) : ORel m (x.map e.eval) (x.map a.eval) := by
  cases x with
  | none => trivial
  | some y => exact hx y rfl
theorem PRel.parts (ps : List (Nat × Operand)) (hx : ∀ x ∈ ps, VRel m (e.eval x.2) (a.eval x.2)) :
    PRel m (ps.map fun x => (x.1, e.eval x.2)) (ps.map fun x => (x.1, a.eval x.2)) := by
  refine ⟨by simp, fun i j v h => ?_⟩
  rw [List.getElem?_map] at h
  cases hi : ps[i]? with
  | none => rw [hi] at h; cases h
  | some x =>
    rw [hi] at h
    simp at h
    obtain ⟨rfl, rfl⟩ := h
    exact ⟨a.eval x.2, by simp [hi], hx x (List.mem_of_getElem? hi)⟩
theorem op_ok (hS : Sim ng ro base w0 m A w) {n0 : Nat} (hf : ¬ m.dom n0) (hr : ro ≤ n0) {o : Oper} {v : Value} {A1 : AH} (ev : ∀ x, x ∈ o.op.operands.toList → VRel m (e.eval x) (a.eval x))
    (h : aOp P ro n0 o.op e A = some (v, A1)) : Does P ng ro base w0 m A w n0 o a v A1 := by
  cases hop : o.op with
  | move x =>
    rw [hop] at h ev; cases h
    exact .pure hS (by simp [execOp, hop]) (ev x (by simp [Op.operands]))
  | assign x =>
    rw [hop] at h ev; cases h
    exact .pure hS (by simp [execOp, hop]) (ev x (by simp [Op.operands]))
  | pick c x y =>
    rw [hop] at h ev
    simp only [aOp] at h
    split at h
    · rename_i t ht
      cases h
      have hc := ev c (by simp [Op.operands])
      rw [ht] at hc
      have hc' := hc.bool_l
      refine .pure hS (v' := if t then a.eval x else a.eval y) (by simp [execOp, hop, hc', asBool]) ?_
      cases t
      · exact ev y (by simp [Op.operands])
      · exact ev x (by simp [Op.operands])
    · cases h
  | alloc t =>
    rw [hop] at h
    simp only [aOp] at h
    split at h
    · rename_i z n hz hn
      cases h
      obtain ⟨m', w', r, h1, h2, h3, h0⟩ := alloc_ok hf hr (P := P) (n := n) hS hz
      exact ⟨m', w', _, r, by simp [execOp, hop, h1], .inl rfl, h2, h3, (.inl h0)⟩
    · cases h
  | box t x =>
    rw [hop] at h ev
    simp only [aOp] at h
    split at h
    · rename_i vs n hvs hn
      cases h
      obtain ⟨m', w', r, h1, h2, h3, h0⟩ := box_ok hf hr (P := P) (t := t) (n := n) hS (ev x (by simp [Op.operands])) hvs
      exact ⟨m', w', _, r, by simp [execOp, hop, h1], .inl rfl, h2, h3, (.inl h0)⟩
    · cases h
  | build t parts =>
    rw [hop] at h ev
    simp only [aOp] at h
    split at h
    · rename_i ps z hps hz
      obtain ⟨cs, hcs, he⟩ := Option.map_eq_some_iff.1 h
      cases he
      have hp := PRel.parts parts.toList (fun x hx => ev x.2 (by simp only [Op.operands]; exact List.mem_map.2 ⟨x, hx, rfl⟩))
      obtain ⟨r, h1, h2⟩ := build_ok (P := P) hps hz hp hcs w
      refine .pure hS (v' := r) ?_ h2
      have : (parts.map fun (x : Nat × Operand) => (x.1, a.eval x.2)) = (parts.toList.map fun x => (x.1, a.eval x.2)).toArray := by apply Array.ext'; simp
      simp only [execOp, hop, Sem.run_bind, this, h1, Result.andThen_ok, Sem.run_pure]
    · cases h
  | buildSlice t n parts =>
    rw [hop] at h ev
    simp only [aOp] at h
    split at h
    · rename_i el sz hel hsz
      split at h
      · rename_i z hz
        split at h
        · rename_i hl
          obtain ⟨cs, hcs, he⟩ := Option.map_eq_some_iff.1 h
          cases he
          have hp := PRel.parts parts.toList (fun x hx => ev x.2 (by simp only [Op.operands]; exact List.mem_map.2 ⟨x, hx, rfl⟩))
          obtain ⟨m', w', r, h1, h2, h3, h0⟩ := buildSlice_ok hf hr (P := P) hS hel hsz hz hl hp hcs
          refine ⟨m', w', _, r, ?_, .inl rfl, h2, h3, (.inl h0)⟩
          have : (parts.map fun (x : Nat × Operand) => (x.1, a.eval x.2)) = (parts.toList.map fun x => (x.1, a.eval x.2)).toArray := by apply Array.ext'; simp
          simp only [execOp, hop, Sem.run_bind, this, h1, Result.andThen_ok, Sem.run_pure]
        · cases h
      · cases h
    · cases h
  | load t x =>
    rw [hop] at h ev
    simp only [aOp] at h
    split at h
    · rename_i p hp
      obtain ⟨u, hu, he⟩ := Option.map_eq_some_iff.1 h
      cases he
      have hx := ev x (by simp [Op.operands])
      rw [hp] at hx
      obtain ⟨v', h1, h2⟩ := load_ok (P := P) hS hx hu
      exact .pure hS (v' := v') (by simp [execOp, hop, h1]) h2
    · cases h
  | store t x y =>
    rw [hop] at h ev
    simp only [aOp] at h
    split at h
    · rename_i p hp
      obtain ⟨u, hu, he⟩ := Option.map_eq_some_iff.1 h
      cases he
      have hx := ev x (by simp [Op.operands])
      rw [hp] at hx
      obtain ⟨w', h1, h2⟩ := store_ok (P := P) hS hx (ev y (by simp [Op.operands])) hu
      exact ⟨m, w', _, undef, by simp [execOp, hop, h1], .inr ⟨rfl, rfl⟩, h2, .undef m, .inl .refl⟩
    · cases h
  | nilCheck x =>
    rw [hop] at h ev
    simp only [aOp] at h
    have hx := ev x (by simp [Op.operands])
    split at h
    · rename_i p hp
      cases h
      rw [hp] at hx
      obtain ⟨b, o', rfl, hv', hd⟩ := hx.ptr_inv
      exact .pure hS (v' := a.eval x) (by simp [execOp, hop, hv']) (by rw [hv']; exact .ptr _ _ hd)
    · rename_i f y z hp
      cases h
      rw [hp] at hx
      generalize hax : a.eval x = v' at hx
      refine .pure hS (v' := v') ?_ hx
      cases hx
      simp [execOp, hop, hax]
    · cases h
  | binOp op t x y t' =>
    rw [hop] at h ev
    simp only [aOp] at h
    obtain ⟨u, hu, he⟩ := Option.map_eq_some_iff.1 h
    cases he
    obtain ⟨r', h1, h2⟩ := binOp_ok (P := P) w (x := x) (y := y) (ev x (by simp [Op.operands])) (ev y (by simp [Op.operands])) hu
    refine .pure hS (v' := r') ?_ h2
    simp only [execOp, hop, Sem.run_bind] at h1 ⊢
    rw [h1]; rfl
  | unOp op t x =>
    rw [hop] at h ev
    simp only [aOp] at h
    obtain ⟨u, hu, he⟩ := Option.map_eq_some_iff.1 h
    cases he
    obtain ⟨r', h1, h2⟩ := un_ok (P := P) (ev x (by simp [Op.operands])) hu w
    exact .pure hS (v' := r') (by simp [execOp, hop, h1]) h2
  | convert s d x =>
    rw [hop] at h ev
    simp only [aOp] at h
    obtain ⟨m', w', r, h1, h2, h3, h0⟩ := convert_ok hf hr (P := P) hS (ev x (by simp [Op.operands])) h
    exact ⟨m', w', _, r, by simp [execOp, hop, h1], .inl rfl, h2, h3, (.inl h0)⟩
  | makeInterface t x =>
    rw [hop] at h ev
    simp only [aOp] at h
    split at h
    · cases h
    · rename_i k hne hk
      split at h
      · cases h
        obtain ⟨d, hd, hf⟩ := tKind_und hk
        refine .pure hS (v' := .iface t (a.eval x)) ?_ (.iface _ _ _ (ev x (by simp [Op.operands])))
        have : ∀ ms, d ≠ .interface ms := by
          rintro ms rfl
          unfold tKind at hk
          rw [hd] at hk
          cases hk
          exact hne rfl
        cases d <;> first | exact absurd rfl (this _) | simp [execOp, hop, Instr.makeInterface, run_und hd]
      · cases h
    · cases h
  | makeFunc fn f c =>
    rw [hop] at h ev
    simp only [aOp] at h
    cases h
    refine .pure hS (v' := .func fn (f.map a.eval) (c.map a.eval)) (by simp [execOp, hop, Instr.makeFunc]) ?_
    refine .func _ _ _ _ _ ?_ ?_
    · simpa using VRels.evals f.toList (fun x hx => ev x (by simp [Op.operands] at hx ⊢; exact .inl hx))
    · simpa using VRels.evals c.toList (fun x hx => ev x (by simp [Op.operands] at hx ⊢; exact .inr hx))
  | makeMap t r =>
    rw [hop] at h
    cases r with
    | some r => cases h
    | none =>
      cases h
      have hst := Step.newMap hf hr (cl := 0) hS (w' := { w with heap := w.heap.push (.map #[] 0) }) rfl rfl rfl rfl
      refine ⟨_, _, _, .map (some w.heap.size), by simp [execOp, hop, Instr.makeMap], .inl rfl, hst, ?_, .inl .add⟩
      have := VRel.map (m := m.add n0 w.heap.size 0 0 0) n0 Emb.add_dom
      simpa using this
  | makeSlice t l c =>
    rw [hop] at h ev
    simp only [aOp] at h
    obtain ⟨m', w', r, h1, h2, h3, h0⟩ := makeSlice_ok hf hr (P := P) hS (ev l (by simp [Op.operands])) (ev c (by simp [Op.operands])) h
    exact ⟨m', w', _, r, by simp [execOp, hop, h1], .inl rfl, h2, h3, (.inl h0)⟩
  | slice t x lo hi mx =>
    rw [hop] at h ev
    simp only [aOp] at h
    obtain ⟨u, hu, he⟩ := Option.map_eq_some_iff.1 h
    cases he
    obtain ⟨r', h1, h2⟩ := slice_ok (P := P) hS (ev x (by simp [Op.operands])) (ORel.eval lo (fun y hy => ev y (by subst hy; simp [Op.operands])))
      (ORel.eval hi (fun y hy => ev y (by subst hy; simp [Op.operands]))) (ORel.eval mx (fun y hy => ev y (by subst hy; simp [Op.operands]))) hu
    exact .pure hS (v' := r') (by simp [execOp, hop, h1]) h2
  | fieldAddr t x f =>
    rw [hop] at h ev
    simp only [aOp] at h
    split at h
    · rename_i off ft p hf hp
      cases h
      have hx := ev x (by simp [Op.operands])
      rw [hp] at hx
      obtain ⟨b, o', rfl, hv', hd⟩ := hx.ptr_inv
      obtain ⟨fs, fl, hu, hfl, hoff, hty, n, hn, hn0⟩ := tField_und hf
      refine .pure hS (v' := .pointer (some ((⟨m.r b, m.s b + o', none⟩ : Addr).add off))) ?_ ?_
      · rw [← hty] at hn
        simp [execOp, hop, hv', Instr.fieldAt, run_und hu, hfl, Instr.sureAddr, fieldPlace, run_size hn, hn0, hoff]
      · exact VRel.ptr_add (.ptr _ _ hd) off
    · cases h
  | field t x f =>
    rw [hop] at h ev
    simp only [aOp] at h
    split at h
    · rename_i off ft cs hf hp
      have hx := ev x (by simp [Op.operands])
      rw [hp] at hx
      obtain ⟨fs, fl, hu, hfl, hoff, hty, n0, hn0, _⟩ := tField_und hf
      generalize hax : a.eval x = v' at hx
      cases hx with
      | agg _ cs' hcs h1 =>
      split at h
      · rename_i n hg hn
        split at h
        · rename_i hle
          cases h
          refine .pure hS (v' := .agg (cs'.extract off (off + n))) ?_ ?_
          · simp [execOp, hop, hax, Instr.field, run_und hu, hfl, asAgg, part, hty, run_agg hg, run_size hn, hoff]
          · refine .agg _ _ ?_ ?_
            · have := (hcs.drop off).take n
              simpa [List.extract_eq_take_drop] using this
            · intro u hu'
              exact h1 u (List.mem_of_mem_drop (List.mem_of_mem_take (by simpa using hu')))
        · cases h
      · rename_i hg
        obtain ⟨u, hu', he⟩ := Option.map_eq_some_iff.1 h
        cases he
        obtain ⟨u', h2, h3⟩ := hcs.get hu'
        have h2' : cs'[off]? = some u' := by simpa using h2
        exact .pure hS (v' := u') (by simp [execOp, hop, hax, Instr.field, run_und hu, hfl, asAgg, part, hty, run_agg hg, hoff, h2']) h3
      · cases h
    · cases h
  | indexAddr t x y =>
    rw [hop] at h ev
    simp only [aOp] at h
    obtain ⟨u, hu, he⟩ := Option.map_eq_some_iff.1 h
    cases he
    obtain ⟨r', h1, h2⟩ := indexAddr_ok (P := P) (ev x (by simp [Op.operands])) (ev y (by simp [Op.operands])) hu w
    exact .pure hS (v' := r') (by simp [execOp, hop, h1]) h2
  | index t x y =>
    rw [hop] at h ev
    simp only [aOp] at h
    obtain ⟨u, hu, he⟩ := Option.map_eq_some_iff.1 h
    cases he
    obtain ⟨r', h1, h2⟩ := index_ok (P := P) (ev x (by simp [Op.operands])) (ev y (by simp [Op.operands])) hu w
    exact .pure hS (v' := r') (by simp [execOp, hop, h1]) h2
  | lookup t x y ok =>
    rw [hop] at h ev
    simp only [aOp] at h
    obtain ⟨u, hu, he⟩ := Option.map_eq_some_iff.1 h
    cases he
    obtain ⟨r', h1, h2⟩ := lookup_ok (P := P) hS (ev x (by simp [Op.operands])) (ev y (by simp [Op.operands])) hu
    exact .pure hS (v' := r') (by simp [execOp, hop, h1]) h2
  | mapUpdate t x y z =>
    rw [hop] at h ev
    simp only [aOp] at h
    obtain ⟨u, hu, he⟩ := Option.map_eq_some_iff.1 h
    cases he
    obtain ⟨w', h1, h2⟩ := mapSet_ok (P := P) hS (ev x (by simp [Op.operands])) (ev y (by simp [Op.operands])) (ev z (by simp [Op.operands])) hu
    exact ⟨m, w', _, undef, by simp [execOp, hop, h1], .inr ⟨rfl, rfl⟩, h2, .undef m, .inl .refl⟩
  | extract x i =>
    rw [hop] at h ev
    simp only [aOp] at h
    split at h
    · rename_i vs hp
      obtain ⟨u, hu, he⟩ := Option.map_eq_some_iff.1 h
      cases he
      have hx := ev x (by simp [Op.operands])
      rw [hp] at hx
      generalize hax : a.eval x = v' at hx
      cases hx with
      | tuple _ vs' hvs =>
      obtain ⟨u', h1, h2⟩ := hvs.get hu
      have h1' : vs'[i]? = some u' := by simpa using h1
      exact .pure hS (v' := u') (by simp [execOp, hop, hax, Instr.extract, h1']) h2
    · cases h
  | call c =>
    rw [hop] at h ev
    simp only [aOp] at h
    split at h
    · rename_i hc
      split at h
      · rename_i t x hts hxs
        obtain ⟨u, hu, he⟩ := Option.map_eq_some_iff.1 h
        cases he
        obtain ⟨ce, as, ts⟩ := c
        obtain rfl : as = #[x] := by apply Array.ext'; simpa using hxs
        obtain rfl : ts = #[t] := by apply Array.ext'; simpa using hts
        simp only at hc
        subst hc
        obtain ⟨r', h1, h2⟩ := len_ok (P := P) (ty := o.type) hS (ev x (by simp [Op.operands, Call.operands])) hu
        exact .pure hS (v' := r') (by simp [execOp, hop, resolve, invoke, builtin, h1]) h2
      · cases h
    · rename_i hc
      split at h
      · rename_i t t2 s x hts hxs
        split at h
        · rename_i hk
          obtain ⟨ce, as, ts⟩ := c
          obtain rfl : as = #[s, x] := by apply Array.ext'; simpa using hxs
          obtain rfl : ts = #[t, t2] := by apply Array.ext'; simpa using hts
          simp only at hc
          subst hc
          obtain ⟨m', w', r, h1, h2, h3, h0⟩ := append_ok (P := P) (ty := o.type) hS (.inl hk) (ev s (by simp [Op.operands, Call.operands])) (ev x (by simp [Op.operands, Call.operands])) h
          exact ⟨m', w', _, r, by simp [execOp, hop, resolve, invoke, builtin, h1], .inl rfl, h2, h3, (.inr h0)⟩
        · rename_i hk
          obtain ⟨ce, as, ts⟩ := c
          obtain rfl : as = #[s, x] := by apply Array.ext'; simpa using hxs
          obtain rfl : ts = #[t, t2] := by apply Array.ext'; simpa using hts
          simp only at hc
          subst hc
          obtain ⟨m', w', r, h1, h2, h3, h0⟩ := append_ok (P := P) (ty := o.type) hS (.inr hk) (ev s (by simp [Op.operands, Call.operands])) (ev x (by simp [Op.operands, Call.operands])) h
          exact ⟨m', w', _, r, by simp [execOp, hop, resolve, invoke, builtin, h1], .inl rfl, h2, h3, (.inr h0)⟩
        · cases h
      · cases h
    · rename_i hc
      obtain ⟨u, hu, he⟩ := Option.map_eq_some_iff.1 h
      cases he
      obtain ⟨ce, as, ts⟩ := c
      simp only at hc
      subst hc
      obtain ⟨r', h1, h2⟩ := min_ok (P := P) (ty := o.type) (ts := ts) (VRels.evals as.toList (fun x hx => ev x (by simpa [Op.operands, Call.operands] using hx))) hu w
      have has : (as.toList.map a.eval).toArray = as.map a.eval := by apply Array.ext'; simp
      rw [has] at h1
      exact .pure hS (v' := r') (by simp [execOp, hop, resolve, invoke, builtin, h1]) h2
    · cases h
  | _ => rw [hop] at h; cases h
end
end Go.AM
