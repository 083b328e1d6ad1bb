import Derived.Test.YtjlbcofopapajaaDoorAmSB
import Derived.LoopN
import Derived.Test.YtjlbcofopapajaaDoorAmSA
import Derived.ChangeArms
import Derived.SizedLaws
import Derived.DataReads
import Derived.ChangeFn
import Derived.Carry
import Derived.OpenVars
namespace Go.AM
open Go Go.RowKit
set_option linter.unusedVariables false
def Emb.cut (m : Emb) (n : Nat) : Emb := { m with dom := fun b => m.dom b ∧ b < n }
mutual
theorem VRel.cut {m mc : Emb} {n : Nat} (hc : ∀ b, mc.dom b → b < n) : ∀ {v v' v'' : Value}, VRel m v v' → VRel mc v v'' → VRel (m.cut n) v v'
 | _, _, _, .bool b, _ => .bool b
 | _, _, _, .int k i, _ => .int k i
 | _, _, _, .string s, _ => .string s
 | _, _, _, .ptrNil, _ => .ptrNil
 | _, _, _, .ptr b o h, k => by cases k with | ptr _ _ h' => exact VRel.ptr (m := m.cut n) b o ⟨h, hc b h'⟩
 | _, _, _, .slNil, _ => .slNil
 | _, _, _, .slEmpty p p' c h hd, k => by
   refine .slEmpty p p' c h fun e => ⟨hd e, ?_⟩
   subst e
   cases k with
   | slEmpty _ _ _ _ h' => exact hc _ (h' rfl)
   | slExact _ _ _ _ h' h2 _ => exact absurd h2 (Nat.lt_irrefl _)
   | slBig _ _ _ _ h' _ _ => exact hc _ h'
 | _, _, _, .slExact b o i c h h1 h2, k => by
   cases k with
   | slEmpty _ _ _ h' h'' =>
     rcases h' with rfl | rfl
     ·exact .slEmpty _ _ 0 (.inl rfl) fun e => (zeroNe e).elim
     ·exact absurd h1 (Nat.lt_irrefl _)
   | slExact _ _ _ _ h' _ _ => exact VRel.slExact (m := m.cut n) b o i c ⟨h, hc b h'⟩ h1 h2
   | slBig _ _ _ _ h' _ _ => exact absurd h1 (Nat.lt_irrefl _)
 | _, _, _, .slBig b o i c h h1 h2, k => by
   cases k with
   | slEmpty _ _ _ h' h'' => exact VRel.slBig (m := m.cut n) b o 0 c ⟨h, hc b (h'' rfl)⟩ h1 h2
   | slExact _ _ _ _ h' h2 _ => exact absurd h2 (Nat.lt_irrefl _)
   | slBig _ _ _ _ h' _ _ => exact VRel.slBig (m := m.cut n) b o i c ⟨h, hc b h'⟩ h1 h2
 | _, _, _, .mapNil, _ => .mapNil
 | _, _, _, .map b h, k => by cases k with | map _ h' => exact VRel.map (m := m.cut n) b ⟨h, hc b h'⟩
 | _, _, _, .nilFunc, _ => .nilFunc
 | _, _, _, .func fn f f' c c' h1 h2, k => by cases k with | func _ _ _ _ _ k1 k2 => exact .func _ _ _ _ _ (VRels.cut hc h1 k1) (VRels.cut hc h2 k2)
 | _, _, _, .nilIface, _ => .nilIface
 | _, _, _, .iface t v v' h, k => by cases k with | iface _ _ _ k1 => exact .iface _ _ _ (VRel.cut hc h k1)
 | _, _, _, .agg cs cs' h h1, k => by cases k with | agg _ _ k1 _ => exact .agg _ _ (VRels.cut hc h k1) h1
 | _, _, _, .tuple vs vs' h, k => by cases k with | tuple _ _ k1 => exact .tuple _ _ (VRels.cut hc h k1)
theorem VRels.cut {m mc : Emb} {n : Nat} (hc : ∀ b, mc.dom b → b < n) : ∀ {l l' l'' : List Value}, VRels m l l' → VRels mc l l'' → VRels (m.cut n) l l'
 | _, _, _, .nil, _ => .nil
 | _, _, _, .cons v v' l l' h k, q => by cases q with | cons _ _ _ _ q1 q2 => exact .cons _ _ _ _ (VRel.cut hc h q1) (VRels.cut hc k q2)
end
section
variable {P : Program} {ng ro base : Nat} {w0 : World}
theorem Sim.cut {m mc : Emb} {H A : AH} {w wc : World} (h : Sim ng ro base w0 m H w) (hc : Sim ng ro base w0 mc A wc) (hg : ∀ b, b < A.size → H.get b = A.get b) (hgl : ∀ g, g < ng → g < A.size) :
 Sim ng ro base w0 (m.cut A.size) A w := by
 have hlt : ∀ b, A.get b ≠ .dead → b < A.size := fun b hb => hc.live_lt hb
 have hH : ∀ b, A.get b ≠ .dead → H.get b = A.get b := fun b hb => hg b (hlt b hb)
 have hl : ∀ b, A.get b ≠ .dead → H.get b ≠ .dead := fun b hb => by rw [hH b hb]; exact hb
 refine ⟨fun g hgn => ?_, fun b hb => hb.2, fun b c e hb => ?_, fun b es hb => ?_, fun b hb => h.rw b (hl b hb), fun b b' hb hb' => h.inj b b' (hl b hb) (hl b' hb'), fun b hb => h.lo b (hl b hb), h.bl, hc.rl, h.old⟩
 ·obtain ⟨h1, h2, h3⟩ := h.glob g hgn
  exact ⟨⟨h1, hgl g hgn⟩, h2, h3⟩
 ·have hb' := hH b (by rw [hb]; simp)
  rw [hb] at hb'
  obtain ⟨hd, c', el, fz, h1, h2, h3, h4, h5, h6⟩ := h.cells b c e hb'
  obtain ⟨_, c2, _, _, _, _, _, _, k5, _⟩ := hc.cells b c e hb
  refine ⟨⟨hd, hlt b (by rw [hb]; simp)⟩, c', el, fz, h1, h2, h3, h4, fun i v hv => ?_, h6⟩
  obtain ⟨g1, v', g2, g3⟩ := h5 i v hv
  obtain ⟨_, v'', _, g4⟩ := k5 i v hv
  exact ⟨g1, v', g2, VRel.cut hc.dlt g3 g4⟩
 ·have hb' := hH b (by rw [hb]; simp)
  rw [hb] at hb'
  obtain ⟨hd, es', cl, h1, h2⟩ := h.maps b es hb'
  obtain ⟨_, es2, _, _, k2⟩ := hc.maps b es hb
  refine ⟨⟨hd, hlt b (by rw [hb]; simp)⟩, es', cl, h1, h2.1, fun i k v hv => ?_⟩
  obtain ⟨en, g1, g2, g3⟩ := h2.2 i k v hv
  obtain ⟨en2, _, g4, g5⟩ := k2.2 i k v hv
  exact ⟨en, g1, VRel.cut hc.dlt g2 g4, VRel.cut hc.dlt g3 g5⟩
theorem Sim.wf {m : Emb} {A : AH} {w : World} (h : Sim ng ro base w0 m A w) : Wf A := fun b hb => by
 cases ho : A.get b with
 | dead => rfl
 | cells c e => have := h.live_lt (b := b) (by rw [ho]; simp); omega
 | map es => have := h.live_lt (b := b) (by rw [ho]; simp); omega
theorem wp_witness {o : Oper} {a : Act} {w : World} {K : Act → World → Prop} (h : o.wp P a w K (fun _ _ _ => False)) : ∃ a' w', K a' w' := by
 unfold Oper.wp at h
 generalize (execOp a.eval o).run P w = r at h
 cases r with
 | ok n w' =>
   cases n <;> simp only [Oper.upon] at h <;> first
    | exact ⟨_, _, h⟩
    | exact h.elim
    | skip
   case enter f args =>
    obtain ⟨e, w2, fr, h1, _⟩ := h []
    cases e with
    | returned v => exact ⟨_, _, h1⟩
    | panicked ch => exact h1.elim
    | outgrown => obtain ⟨_, _, hf⟩ := h1; exact hf.elim
   case row row args =>
    obtain ⟨v, w2, h1, _⟩ := h default []
    exact ⟨_, _, h1⟩
 | halt x w' => cases x <;> simp only [Oper.upon] at h
section
variable {ops : Array Oper} {S : Nat → Prop} {es : Nat → Env} {As : Nat → AH} {L : Nat}
theorem Course.canon (hc : Course P ng ro base w0 ops S es As 0 L) (hL : L ≤ ops.size) {m : Emb} {w : World} {a : Act} (hS : Sim ng ro base w0 m (As 0) w) (hE : EnvRel m (es 0) a.tmps)
 (hok : ∀ o ∈ ops.toList, dstOk a.tmps.size ng o = true) : ∀ k, k ≤ L → ∃ mk wk ak, Sim ng ro base w0 mk (As k) wk ∧ EnvRel mk (es k) (Act.tmps ak) ∧ ak.tmps.size = a.tmps.size := by
 intro k
 induction k with
 | zero => intro _; exact ⟨m, w, a, hS, hE, rfl⟩
 | succ k ih =>
   intro hk
   obtain ⟨mk, wk, ak, h1, h2, h3⟩ := ih (by omega)
   obtain ⟨o, ho, hs⟩ := hc.step k (Nat.zero_le _) (by omega)
   have ho' := hok o (by have := Array.mem_of_getElem? ho; simpa using this)
   rw [← h3] at ho'
   rcases hs with ⟨_, g1, g2⟩ | ⟨_, v, g1, _, g2⟩
   ·refine ⟨mk, wk, ak.put o.dst undef, by rw [g2]; exact h1, ?_, put_size.trans h3⟩
    rw [g1]
    exact h2.put (.undef mk) (dst_lt ho')
   ·have hop : OpSound P ng ro base w0 o (es k) (As k) v (As (k + 1)) := by
     rcases g2 with ⟨_, g2⟩ | ⟨_, g2, _⟩
     ·exact opSound_of g2
     ·exact g2
    obtain ⟨a', w', m', v', g3, g4, g5⟩ := wp_witness (P := P) (hop mk wk ak h1 (evals h1 h2 ho') (fun a' w' => ∃ m' v', Step ng ro base w0 mk (As k) wk m' (As (k + 1)) w' ∧ VRel m' v v' ∧ a' = ak.put o.dst v') (fun _ _ _ => False)
     fun m' w' v' q1 q2 => ⟨m', v', q1, q2, rfl⟩)
    subst g5
    refine ⟨m', w', ak.put o.dst v', g3.sim, ?_, put_size.trans h3⟩
    rw [g1]
    exact (h2.mono g3.le).put g4 (dst_lt ho')
theorem Course.heap (hc : Course P ng ro base w0 ops S es As 0 L) (i : Nat) (hi : i < L) : ∃ o, ops[i]? = some o ∧ (As i).size ≤ (As (i + 1)).size ∧
 (isEff o.op = false → As (i + 1) = As i ∨ (isNew o.op = true ∧ ∃ ob, As (i + 1) = (As i).newAt (As i).size ob)) := by
 obtain ⟨o, ho, hs⟩ := hc.step i (Nat.zero_le _) hi
 refine ⟨o, ho, ?_, ?_⟩
 ·rcases hs with ⟨_, _, g⟩ | ⟨_, v, _, _, ⟨hn, g⟩ | ⟨_, _, g⟩⟩
  ·rw [g]; exact Nat.le_refl _
  ·rcases quiet_at hn g (As i) (fun _ _ _ => rfl) with ⟨g, _⟩ | ⟨_, ob, g, _⟩
   ·rw [g]; exact Nat.le_refl _
   ·rw [g]; exact Nat.le_max_left _ _
  ·exact g
 ·intro hn
  rcases hs with ⟨_, _, g⟩ | ⟨_, v, _, _, ⟨_, g⟩ | ⟨hn', _⟩⟩
  ·exact .inl g
  ·rcases quiet_at hn g (As i) (fun _ _ _ => rfl) with ⟨g, _⟩ | ⟨h1, ob, g, _⟩
   ·exact .inl g
   ·exact .inr ⟨h1, ob, g⟩
  ·rw [hn] at hn'; cases hn'
theorem Course.mono (hc : Course P ng ro base w0 ops S es As 0 L) : ∀ i j, i ≤ j → j ≤ L → (As i).size ≤ (As j).size := by
 intro i j hij
 induction j with
 | zero => intro _; have : i = 0 := by omega
           subst this; exact Nat.le_refl _
 | succ j ih =>
   intro hj
   by_cases h : i = j + 1
   ·subst h; exact Nat.le_refl _
   ·obtain ⟨_, _, h1, _⟩ := hc.heap j (by omega)
    exact Nat.le_trans (ih (by omega) (by omega)) h1
theorem Course.slot (hc : Course P ng ro base w0 ops S es As 0 L) {t i j : Nat} (hij : i ≤ j) (hj : j ≤ L) (hn : ∀ k o, i ≤ k → k < j → ops[k]? = some o → o.dst ≠ some t) : es j t = es i t := by
 induction j with
 | zero => have : i = 0 := by omega
           subst this; rfl
 | succ j ih =>
   by_cases h : i = j + 1
   ·subst h; rfl
   ·have h1 := ih (by omega) (by omega) (fun k o h1 h2 => hn k o h1 (by omega))
    obtain ⟨o, ho, hs⟩ := hc.step j (Nat.zero_le _) (by omega)
    have hd := hn j o (by omega) (by omega) ho
    rcases hs with ⟨_, g, _⟩ | ⟨_, v, g, _⟩
    ·rw [g, ← h1]; simp [Env.put, hd]
    ·rw [g, ← h1]; simp [Env.put, hd]
end
end
end Go.AM
namespace Go.AM
open Go Go.RowKit
set_option linter.unusedVariables false
section
variable {P : Program} {ng ro base : Nat} {w0 : World} {ops : Array Oper} {S : Nat → Prop} {es : Nat → Env} {As : Nat → AH} {L : Nat}
theorem bit_lt {ops : Array Oper} (hk : drawOk ops = true) {i j : Nat} (h : bitAt (Region.before ops) j i = true) : i < j :=
 (Closed.bit (D := fun _ => True) (fun _ _ _ _ _ _ _ => trivial) hk j trivial i h).2
theorem reads_dom {e : Env} {op : Op} {b : Nat} (h : readsAt e op = some b) {m : Emb} {a : Act} (ev : ∀ x, x ∈ op.operands.toList → VRel m (e.eval x) (a.eval x)) : m.dom b := by
 cases op <;> simp only [readsAt] at h <;> try (cases h; done)
 case load t x =>
  split at h
  ·rename_i p hp
   cases h
   have := ev x (by simp [Op.operands])
   rw [hp] at this
   obtain ⟨b, o, rfl, _, hd⟩ := this.ptr_inv
   exact hd
  ·cases h
 case convert s d x =>
  split at h
  ·rename_i p n c hp
   split at h
   ·cases h
   ·rename_i hn
    cases h
    have := ev x (by simp [Op.operands])
    rw [hp] at this
    generalize a.eval x = v' at this
    cases this with
    | slEmpty _ p' _ _ _ => exact absurd rfl hn
    | slExact b o _ _ hd _ _ => exact hd
    | slBig b o _ _ hd _ _ => exact hd
  ·cases h
 case slice t x lo hi mx =>
  split at h
  ·rename_i p n c hp
   split at h
   ·cases h
   ·rename_i hc
    cases h
    have := ev x (by simp [Op.operands])
    rw [hp] at this
    generalize a.eval x = v' at this
    cases this with
    | slEmpty _ p' _ h1 h2 =>
      rcases h1 with rfl | rfl
      ·exact absurd (by unfold BIG; omega) hc
      ·exact h2 rfl
    | slExact b o _ _ hd h1 _ => exact hd
    | slBig b o _ _ hd _ _ => exact hd
  ·cases h
 case lookup t x y ok =>
  split at h
  ·rename_i r hp
   cases h
   have := ev x (by simp [Op.operands])
   rw [hp] at this
   generalize a.eval x = v' at this
   cases this with | map _ hd => exact hd
  ·cases h
 case call c =>
  split at h
  ·rename_i x hc hx
   split at h
   ·rename_i r hp
    cases h
    have := ev x (by simp [Op.operands, Call.operands, hc, hx])
    rw [hp] at this
    generalize a.eval x = v' at this
    cases this with | map _ hd => exact hd
   ·cases h
  ·cases h
theorem reads_isRead {e : Env} {op : Op} {b : Nat} (h : readsAt e op = some b) : isRead op = true := by
 cases op <;> simp only [readsAt] at h <;> try (cases h; done)
 all_goals try rfl
 case call c =>
  split at h
  ·rename_i x hc hx; simp [isRead, hc]
  ·cases h
structure Inv (P : Program) (ng ro base : Nat) (w0 : World) (ops : Array Oper) (es : Nat → Env) (As : Nat → AH) (L : Nat) (m1 : Emb) (w1 : World) (a1 : Act) (D : Nat → Prop) (p : Nat) (m : Emb) (H : AH) (a : Act) (w : World) : Prop where
 closed : Closed ops D
 inL : ∀ i, D i → i < L
 pL : p ≤ L
 effD : ∀ i o, ops[i]? = some o → isEff o.op = true → D i → i < p
 lowE : ∀ i o, ops[i]? = some o → i < p → isEff o.op = true ∨ isNew o.op = true → D i
 sim : Sim ng ro base w0 m H w
 low : ∀ b, b < (As p).size → H.get b = (As p).get b
 up : ∀ i, D i → p ≤ i → ∀ b, (As i).size ≤ b → b < (As (i + 1)).size → H.get b = (As (i + 1)).get b
 dom : ∀ b, m.dom b → b < (As p).size ∨ ∃ i, D i ∧ p ≤ i ∧ (As i).size ≤ b ∧ b < (As (i + 1)).size
 hsize : (As L).size ≤ H.size
 tmps : ∀ t k, k ≤ L → (∀ i o, i < k → ops[i]? = some o → o.dst = some t → D i) → (∀ i o, k ≤ i → ops[i]? = some o → o.dst = some t → ¬ D i) → VRel m (es k t) (a.tmps.getD t undef)
 tsz : a.tmps.size = a1.tmps.size
 dfr : a.defers = a1.defers
 step : Step ng ro base w0 m1 (As 0) w1 m H w
variable {m1 : Emb} {w1 : World} {a1 : Act} {D : Nat → Prop} {p : Nat} {m : Emb} {H : AH} {a : Act} {w : World}
def MayCome (ops : Array Oper) (D : Nat → Prop) (i : Nat) : Prop := ¬ D i ∧ ∃ o, ops[i]? = some o ∧ ∀ ed ∈ o.after, Region.binds .any ed = true → D ed.on
theorem MayCome.closed (hD : Closed ops D) {i : Nat} (h : MayCome ops D i) : Closed ops (fun x => D x ∨ x = i) := by
 intro j o ho hj ed he hb
 rcases hj with hj | rfl
 ·exact .inl (hD j o ho hj ed he hb)
 ·obtain ⟨_, o', ho', h'⟩ := h
  rw [ho] at ho'; cases ho'
  exact .inl (h' ed he hb)
theorem MayCome.bits (hk : drawOk ops = true) (hD : Closed ops D) {i : Nat} (h : MayCome ops D i) : ∀ j, bitAt (Region.before ops) i j = true → D j := by
 intro j hj
 obtain ⟨h1, h2⟩ := (h.closed hD).bit hk i (.inr rfl) j hj
 rcases h1 with h1 | h1
 ·exact h1
 ·omega
theorem mem_opTmps {o : Oper} {t : Nat} : (Operand.tmp t) ∈ o.op.operands.toList → t ∈ opTmps ops o := fun h => by
 unfold opTmps
 refine List.mem_append.2 (.inl (List.mem_append.2 (.inr ?_)))
 exact List.mem_filterMap.2 ⟨_, h, rfl⟩
theorem clash_l {x y : Oper} {d : Nat} (h : x.dst = some d) (hy : d ∈ opTmps ops y) : clash ops x y = true := by
 unfold clash
 rw [h]
 simp [hy]
theorem clash_r {x y : Oper} {d : Nat} (h : y.dst = some d) (hx : d ∈ opTmps ops x) : clash ops x y = true := by
 unfold clash
 rw [h]
 simp [hx]
theorem Inv.slot (hk : drawOk ops = true) (I : Inv P ng ro base w0 ops es As L m1 w1 a1 D p m H a w) {i : Nat} (h : MayCome ops D i) (hi : i ≤ L) {o : Oper} (ho : ops[i]? = some o) {t : Nat} (ht : t ∈ opTmps ops o) :
 VRel m (es i t) (a.tmps.getD t undef) := by
 refine I.tmps t i hi ?_ ?_
 ·intro j oj hj hoj hd
  rcases drawOk_pair hk hoj ho hj with hb | ⟨_, hc⟩
  ·exact h.bits hk I.closed j hb
  ·rw [clash_l hd ht] at hc; cases hc
 ·intro j oj hj hoj hd hDj
  rcases Nat.lt_or_ge i j with hlt | hge
  ·rcases drawOk_pair hk ho hoj hlt with hb | ⟨_, hc⟩
   ·exact h.1 (I.closed.bit hk j hDj i hb).1
   ·rw [clash_r hd ht] at hc; cases hc
  ·have : j = i := by omega
   subst this
   exact h.1 hDj
theorem Inv.evals (hk : drawOk ops = true) (I : Inv P ng ro base w0 ops es As L m1 w1 a1 D p m H a w) {i : Nat} (h : MayCome ops D i) (hi : i ≤ L) {o : Oper} (ho : ops[i]? = some o) (hok : ∀ o ∈ ops.toList, dstOk a1.tmps.size ng o = true) :
 ∀ x, x ∈ o.op.operands.toList → VRel m ((es i).eval x) (a.eval x) := by
 intro x hx
 have ho' := hok o (by have := Array.mem_of_getElem? ho; simpa using this)
 unfold dstOk at ho'
 rw [Bool.and_eq_true] at ho'
 have hxo := List.all_eq_true.1 ho'.2 x hx
 cases x with
 | tmp t => exact I.slot hk h hi ho (mem_opTmps hx)
 | const v => exact VRel.ground1 m hxo
 | global g =>
   obtain ⟨h1, h2, h3⟩ := I.sim.glob g (by simpa [opdOk] using hxo)
   have := VRel.ptr (m := m) g 0 h1
   simpa [Env.eval, Act.eval, h2, h3] using this
 | func f => exact .func _ _ _ _ _ .nil .nil
theorem Inv.wanted (hk : drawOk ops = true) (I : Inv P ng ro base w0 ops es As L m1 w1 a1 D p m H a w) {i : Nat} (h : MayCome ops D i) (hi : i ≤ L) {o : Oper} (ho : ops[i]? = some o) :
 Region.wanted o (yielded ops a.tmps) = aWanted ops o (es i) := by
 refine wanted_ok fun j want d hg hd => I.slot hk h hi ho ?_
 unfold opTmps
 refine List.mem_append.2 (.inr ?_)
 rw [hg]
 simp [hd]
theorem Inv.tmps' (hk : drawOk ops = true) (hc : Course P ng ro base w0 ops S es As 0 L) (I : Inv P ng ro base w0 ops es As L m1 w1 a1 D p m H a w) {i : Nat} (h : MayCome ops D i) (hi : i < L) {o : Oper} (ho : ops[i]? = some o)
 (hok : ∀ o ∈ ops.toList, dstOk a1.tmps.size ng o = true) {m' : Emb} (hm : m.Le m') {v v' : Value} (hv : VRel m' v v') (he : es (i + 1) = (es i).put o.dst v) :
 ∀ t k, k ≤ L → (∀ j o, j < k → ops[j]? = some o → o.dst = some t → D j ∨ j = i) → (∀ j o, k ≤ j → ops[j]? = some o → o.dst = some t → ¬ (D j ∨ j = i)) → VRel m' (es k t) ((a.put o.dst v').tmps.getD t undef) := by
 intro t k hkL h1 h2
 have ho' := hok o (by have := Array.mem_of_getElem? ho; simpa using this)
 by_cases hd : o.dst = some t
 ·have hik : i < k := by
   rcases Nat.lt_or_ge i k with h' | h'
   ·exact h'
   ·exact absurd (.inr rfl) (h2 i o h' ho hd)
  have hs := hc.slot (t := t) (i := i + 1) (j := k) (by omega) hkL (by
   intro j oj hj1 hj2 hoj hdj
   rcases h1 j oj hj2 hoj hdj with hD | rfl
   ·have ht : t ∈ opTmps ops o := by
     unfold opTmps
     exact List.mem_append.2 (.inl (List.mem_append.2 (.inl (by simp [hd]))))
    rcases drawOk_pair hk ho hoj (by omega) with hb | ⟨_, hcl⟩
    ·exact h.1 (I.closed.bit hk j hD i hb).1
    ·rw [clash_r hdj ht] at hcl; cases hcl
   ·omega)
  rw [hs, he, hd]
  have hlt : t < a.tmps.size := by rw [I.tsz]; exact dst_lt ho' t hd
  simp only [Env.put, if_true, Act.put]
  simpa [Array.getD_eq_getD_getElem?, Array.getElem?_setIfInBounds, hlt] using hv
 ·have := I.tmps t k hkL (fun j oj hj hoj hdj => by
   rcases h1 j oj hj hoj hdj with hD | rfl
   ·exact hD
   ·rw [ho] at hoj; cases hoj; exact absurd hdj hd) (fun j oj hj hoj hdj hD => h2 j oj hj hoj hdj (.inl hD))
  have hr : (a.put o.dst v').tmps.getD t undef = a.tmps.getD t undef := by
   cases hdd : o.dst with
   | none => rfl
   | some d =>
     have hne : d ≠ t := fun e => hd (by rw [hdd, e])
     simp [Act.put, Array.getD_eq_getD_getElem?, hne]
  rw [hr]
  exact this.mono hm
theorem keep_range (hk : drawOk ops = true) (hc : Course P ng ro base w0 ops S es As 0 L) {i : Nat} {oi : Oper} (hoi : ops[i]? = some oi) (hr : isRead oi.op = true) {b : Nat} (hb : S b) {j k : Nat} (hjk : j ≤ k) (hkL : k ≤ L)
 (hbj : b < (As j).size) (hfree : ∀ x ox, j ≤ x → x < k → ops[x]? = some ox → isEff ox.op = true → x ≠ i ∧ bitAt (Region.before ops) i x = false ∧ bitAt (Region.before ops) x i = false) : (As k).get b = (As j).get b := by
 induction k with
 | zero => have : j = 0 := by omega
           subst this; rfl
 | succ k ih =>
   by_cases hjk' : j = k + 1
   ·subst hjk'; rfl
   ·have h1 := ih (by omega) (by omega) (fun x ox h1 h2 => hfree x ox h1 (by omega))
    rw [← h1]
    have hsz := hc.mono j k (by omega) (by omega)
    obtain ⟨o, ho, hs⟩ := hc.step k (Nat.zero_le _) (by omega)
    rcases hs with ⟨_, _, g⟩ | ⟨_, v, _, hheld, ⟨hn, g⟩ | ⟨hn, _, _⟩⟩
    ·rw [g]
    ·rcases quiet_at hn g (As k) (fun _ _ _ => rfl) with ⟨g, _⟩ | ⟨_, ob, g, _⟩
     ·rw [g]
     ·rw [g]; exact AH.get_new_ne (by omega)
    ·obtain ⟨f1, f2, f3⟩ := hfree k o (by omega) (by omega) ho hn
     have hfr : freeReads ops k = true := by
      unfold freeReads
      refine List.any_eq_true.2 ⟨i, ?_, ?_⟩
      ·rw [List.mem_range]
       rcases Nat.lt_or_ge i ops.size with h' | h'
       ·exact h'
       ·rw [Array.getElem?_eq_none h'] at hoi; cases hoi
      ·have : opAt ops i = oi.op := by simp [opAt, hoi]
       simp only [this, hr, f2, f3, Bool.and_eq_true, bne_iff_ne, ne_eq, Bool.not_false, and_true, true_and]
       exact fun e => f1 e.symm
     exact (hheld S rfl).2 hn hfr b (by omega) hb
theorem Inv.look (hk : drawOk ops = true) (hc : Course P ng ro base w0 ops S es As 0 L) (I : Inv P ng ro base w0 ops es As L m1 w1 a1 D p m H a w) (hwf : ∀ k, k ≤ L → Wf (As k)) {i : Nat} (h : MayCome ops D i) (hi : i < L) {o : Oper} (ho : ops[i]? = some o)
 (hn : isEff o.op = false) (hheld : Held ops (some S) i o.op (es i) (As i) (As (i + 1))) (hok : ∀ o ∈ ops.toList, dstOk a1.tmps.size ng o = true) :
 ∀ b, readsAt (es i) o.op = some b → (As i).get b ≠ .dead → H.get b = (As i).get b := by
 intro b hb hl
 have hSb := (hheld S rfl).1 b hn hb
 have hr := reads_isRead hb
 have hd := reads_dom hb (I.evals hk h (by omega) ho hok)
 have hbi : b < (As i).size := by
  rcases Nat.lt_or_ge b (As i).size with h' | h'
  ·exact h'
  ·exact absurd (hwf i (by omega) b h') hl
 rcases Nat.lt_or_ge i p with hip | hpi
 ·have hkr := keep_range hk hc ho hr hSb (j := i) (k := p) (by omega) I.pL hbi (by
   intro x ox h1 h2 hox hex
   refine ⟨?_, ?_, ?_⟩
   ·rintro rfl; rw [ho] at hox; cases hox; rw [hn] at hex; cases hex
   ·cases hbx : bitAt (Region.before ops) i x with
    | false => rfl
    | true => have := bit_lt hk hbx; omega
   ·cases hbx : bitAt (Region.before ops) x i with
    | false => rfl
    | true => exact absurd (I.closed.bit hk x (I.lowE x ox hox h2 (.inl hex)) i hbx).1 h.1)
  rw [I.low b (Nat.lt_of_lt_of_le hbi (hc.mono i p (by omega) I.pL)), hkr]
 ·have hfree : ∀ x ox, p ≤ x → x < i → ops[x]? = some ox → isEff ox.op = true → x ≠ i ∧ bitAt (Region.before ops) i x = false ∧ bitAt (Region.before ops) x i = false := by
   intro x ox h1 h2 hox hex
   refine ⟨by omega, ?_, ?_⟩
   ·cases hbx : bitAt (Region.before ops) i x with
    | false => rfl
    | true => have := I.effD x ox hox hex (h.bits hk I.closed x hbx); omega
   ·cases hbx : bitAt (Region.before ops) x i with
    | false => rfl
    | true => have := bit_lt hk hbx; omega
  rcases I.dom b hd with hbp | ⟨j, hDj, hpj, hj1, hj2⟩
  ·rw [I.low b hbp]
   exact (keep_range hk hc ho hr hSb hpi (by omega) hbp hfree).symm
  ·rw [I.up j hDj hpj b hj1 hj2]
   have hji : j < i := by
    rcases Nat.lt_or_ge j i with h' | h'
    ·exact h'
    ·have := hc.mono i j h' (Nat.le_of_lt (I.inL j hDj)); omega
   exact (keep_range hk hc ho hr hSb (j := j + 1) (k := i) (by omega) (by omega) hj2 (fun x ox h1 h2 => hfree x ox (by omega) h2)).symm
end
end Go.AM
namespace Go.AM
open Go Go.RowKit
set_option linter.unusedVariables false
section
variable {P : Program} {ng ro base : Nat} {w0 : World} {ops : Array Oper} {S : Nat → Prop} {es : Nat → Env} {As : Nat → AH} {L : Nat}
variable {m1 : Emb} {w1 : World} {a1 : Act} {D : Nat → Prop} {p : Nat} {m : Emb} {H : AH} {a : Act} {w : World}
theorem Inv.quiet (hk : drawOk ops = true) (hc : Course P ng ro base w0 ops S es As 0 L) (hwf : ∀ k, k ≤ L → Wf (As k)) (hro : ro ≤ (As 0).size) (hok : ∀ o ∈ ops.toList, dstOk a1.tmps.size ng o = true)
 (I : Inv P ng ro base w0 ops es As L m1 w1 a1 D p m H a w) {i : Nat} (h : MayCome ops D i) (hi : i < L) {o : Oper} (ho : ops[i]? = some o) (hn : isEff o.op = false)
 {Q : Exit → Act → World → Prop} {K : Act → World → Prop} (hK : ∀ m' H' a' w', Inv P ng ro base w0 ops es As L m1 w1 a1 (fun x => D x ∨ x = i) p m' H' a' w' → K a' w') : wpOp P ops Q i K a w := by
 have hw := I.wanted hk h (by omega) ho
 unfold wpOp
 simp only [ho, hw]
 have hinL : ∀ x, D x ∨ x = i → x < L := fun x hx => by
  rcases hx with hx | rfl
  ·exact I.inL x hx
  ·exact hi
 have heffD : ∀ x ox, ops[x]? = some ox → isEff ox.op = true → (D x ∨ x = i) → x < p := fun x ox hox hex hx => by
  rcases hx with hx | rfl
  ·exact I.effD x ox hox hex hx
  ·rw [ho] at hox; cases hox; rw [hn] at hex; cases hex
 have hlowE : ∀ x ox, ops[x]? = some ox → x < p → isEff ox.op = true ∨ isNew ox.op = true → D x ∨ x = i := fun x ox h1 h2 h3 => .inl (I.lowE x ox h1 h2 h3)
 obtain ⟨o', ho', hs⟩ := hc.step i (Nat.zero_le _) hi
 rw [ho] at ho'; cases ho'
 rcases hs with ⟨hwn, he, hA⟩ | ⟨hwy, v, he, hheld, hs⟩
 ·simp only [hwn, Bool.false_eq_true, if_false]
  refine hK m H (a.put o.dst undef) w ⟨h.closed I.closed, hinL, I.pL, heffD, hlowE, I.sim, I.low, ?_, ?_, I.hsize, I.tmps' hk hc h hi ho hok (.refl m) (.undef m) he, put_size.trans I.tsz, put_defers.trans I.dfr, I.step⟩
  ·intro x hx hpx b h1 h2
   rcases hx with hx | rfl
   ·exact I.up x hx hpx b h1 h2
   ·rw [hA] at h2; omega
  ·intro b hb
   rcases I.dom b hb with h1 | ⟨x, h1, h2⟩
   ·exact .inl h1
   ·exact .inr ⟨x, .inl h1, h2⟩
 ·simp only [hwy, if_true]
  left
  rcases hs with ⟨_, hop⟩ | ⟨hn', _⟩
  ·have hlook := I.look hk hc hwf h hi ho hn hheld hok
   have hev := I.evals hk h (by omega) ho hok
   have fin : ∀ {m' : Emb} {w' : World} {H' : AH} {v' : Value}, Step ng ro base w0 m H w m' H' w' → VRel m' v v' → (∀ b, b < (As p).size → H'.get b = H.get b) →
    (∀ x, D x → p ≤ x → ∀ b, (As x).size ≤ b → b < (As (x + 1)).size → H'.get b = H.get b) → (p ≤ i → ∀ b, (As i).size ≤ b → b < (As (i + 1)).size → H'.get b = (As (i + 1)).get b) →
    (∀ b, m'.dom b → m.dom b ∨ (p ≤ i ∧ (As i).size ≤ b ∧ b < (As (i + 1)).size)) → K (a.put o.dst v') w' := by
    intro m' w' H' v' hst hv' q1 q2 q3 q4
    refine hK m' H' (a.put o.dst v') w' ⟨h.closed I.closed, hinL, I.pL, heffD, hlowE, hst.sim, fun b hb => (q1 b hb).trans (I.low b hb), ?_, ?_, Nat.le_trans I.hsize hst.sz, I.tmps' hk hc h hi ho hok hst.le hv' he,
     put_size.trans I.tsz, put_defers.trans I.dfr, I.step.trans hst⟩
    ·intro x hx hpx b h1 h2
     rcases hx with hx | rfl
     ·rw [q2 x hx hpx b h1 h2]; exact I.up x hx hpx b h1 h2
     ·exact q3 hpx b h1 h2
    ·intro b hb
     rcases q4 b hb with hb | ⟨h1, h2, h3⟩
     ·rcases I.dom b hb with h1 | ⟨x, h1, h2⟩
      ·exact .inl h1
      ·exact .inr ⟨x, .inl h1, h2⟩
     ·exact .inr ⟨i, .inr rfl, h1, h2, h3⟩
   rcases quiet_at hn hop H hlook with ⟨hA, hop'⟩ | ⟨hnew, ob, hA, hop'⟩
   ·obtain ⟨m', w', n, v', g1, g2, g3, g4, g5⟩ := op_ok (P := P) I.sim I.sim.fresh I.sim.rl hev (hop' H.size)
    have hdom : ∀ b, m'.dom b → m.dom b := by
     intro b hb
     have hlt := g3.sim.dlt b hb
     have : m.dom b ∨ b = H.size := by rcases g5 with g5 | g5 <;> exact g5 b hb
     rcases this with h1 | h1
     ·exact h1
     ·omega
    have hK' := fin g3 g4 (fun _ _ => rfl) (fun _ _ _ _ _ _ => rfl) (fun _ b h1 h2 => by rw [hA] at h2; omega) (fun b hb => .inl (hdom b hb))
    unfold Oper.wp
    rw [g1]
    rcases g2 with rfl | ⟨rfl, rfl⟩
    ·exact hK'
    ·exact hK'
   ·have hpi : p ≤ i := by
     rcases Nat.lt_or_ge i p with h' | h'
     ·exact absurd (I.lowE i o ho h' (.inr hnew)) h.1
     ·exact h'
    have hsz : (As (i + 1)).size = (As i).size + 1 := by rw [hA]; show max _ _ = _; omega
    have hfresh : ¬ m.dom (As i).size := by
     intro hd
     rcases I.dom _ hd with h1 | ⟨x, hDx, hpx, h1, h2⟩
     ·have := hc.mono p i hpi (by omega); omega
     ·rcases Nat.lt_trichotomy x i with hx | hx | hx
      ·have := hc.mono (x + 1) i (by omega) (by omega); omega
      ·subst hx; exact h.1 hDx
      ·have := hc.mono (i + 1) x (by omega) (Nat.le_of_lt (I.inL x hDx)); omega
    obtain ⟨m', w', n, v', g1, g2, g3, g4, g5⟩ := op_ok (P := P) I.sim hfresh (Nat.le_trans hro (hc.mono 0 i (by omega) (by omega))) hev hop'
    have hHs : (H.newAt (As i).size ob).size = H.size := by
     have := hc.mono (i + 1) L (by omega) (Nat.le_refl _)
     have := I.hsize
     show max _ _ = _; omega
    have hdom : ∀ b, m'.dom b → m.dom b ∨ (p ≤ i ∧ (As i).size ≤ b ∧ b < (As (i + 1)).size) := by
     intro b hb
     have hlt := g3.sim.dlt b hb
     rw [hHs] at hlt
     rcases g5 with g5 | g5
     ·rcases g5 b hb with h1 | h1
      ·exact .inl h1
      ·exact .inr ⟨hpi, by omega, by omega⟩
     ·rcases g5 b hb with h1 | h1
      ·exact .inl h1
      ·omega
    have hK' := fin g3 g4 (fun b hb => AH.get_new_ne (by have := hc.mono p i hpi (by omega); omega)) (fun x hDx hpx b h1 h2 => AH.get_new_ne (by
     rcases Nat.lt_trichotomy x i with hx | hx | hx
     ·have := hc.mono (x + 1) i (by omega) (by omega); omega
     ·subst hx; exact absurd hDx h.1
     ·have := hc.mono (i + 1) x (by omega) (Nat.le_of_lt (I.inL x hDx)); omega))
     (fun _ b h1 h2 => by
       obtain rfl : b = (As i).size := by omega
       rw [AH.get_new, hA, AH.get_new]) hdom
    unfold Oper.wp
    rw [g1]
    rcases g2 with rfl | ⟨rfl, rfl⟩
    ·exact hK'
    ·exact hK'
  ·rw [hn] at hn'; cases hn'
theorem Inv.agree (hk : drawOk ops = true) (hc : Course P ng ro base w0 ops S es As 0 L) (I : Inv P ng ro base w0 ops es As L m1 w1 a1 D p m H a w) {j : Nat} (hpj : p ≤ j) (hjL : j ≤ L)
 (hq : ∀ x ox, p ≤ x → x < j → ops[x]? = some ox → isEff ox.op = false ∧ (isNew ox.op = true → D x)) : ∀ b, b < (As j).size → H.get b = (As j).get b := by
 induction j with
 | zero =>
   have : p = 0 := by omega
   subst this
   exact I.low
 | succ j ih =>
   by_cases hp : p = j + 1
   ·subst hp; exact I.low
   ·intro b hb
    have ih' := ih (by omega) (by omega) (fun x ox h1 h2 => hq x ox h1 (by omega))
    obtain ⟨o, ho, hsz, hheap⟩ := hc.heap j (by omega)
    obtain ⟨h1, h2⟩ := hq j o (by omega) (by omega) ho
    rcases hheap h1 with hA | ⟨hnew, ob, hA⟩
    ·rw [hA] at hb ⊢; exact ih' b hb
    ·by_cases hbj : b < (As j).size
     ·rw [ih' b hbj, hA, AH.get_new_ne (by omega)]
     ·exact I.up j (h2 hnew) (by omega) b (by omega) hb
theorem Inv.chain (hk : drawOk ops = true) (I : Inv P ng ro base w0 ops es As L m1 w1 a1 D p m H a w) {j : Nat} (h : MayCome ops D j) {o : Oper} (ho : ops[j]? = some o) (hn : isEff o.op = true) :
 p ≤ j ∧ ∀ x ox, x < j → ops[x]? = some ox → (isEff ox.op = true ∨ isNew ox.op = true) → D x := by
 refine ⟨?_, ?_⟩
 ·rcases Nat.lt_or_ge j p with h' | h'
  ·exact absurd (I.lowE j o ho h' (.inl hn)) h.1
  ·exact h'
 ·intro x ox hx hox hex
  rcases drawOk_pair hk hox ho hx with hb | ⟨hne, _⟩
  ·exact h.bits hk I.closed x hb
  ·exact absurd ⟨hn, hex⟩ hne
theorem Inv.cut (hk : drawOk ops = true) (hc : Course P ng ro base w0 ops S es As 0 L) (hok : ∀ o ∈ ops.toList, dstOk a1.tmps.size ng o = true) (hgl : ∀ g, g < ng → g < (As 0).size) (h01 : ∀ b, m1.dom b → b < (As 0).size)
 (I : Inv P ng ro base w0 ops es As L m1 w1 a1 D p m H a w) {j : Nat} (hpj : p ≤ j) (hjL : j ≤ L) (hq : ∀ x ox, p ≤ x → x < j → ops[x]? = some ox → isEff ox.op = false ∧ (isNew ox.op = true → D x))
 {mc : Emb} {wc : World} (hmc : Sim ng ro base w0 mc (As j) wc) :
 Sim ng ro base w0 (m.cut (As j).size) (As j) w ∧ Step ng ro base w0 m1 (As 0) w1 (m.cut (As j).size) (As j) w := by
 have hag := I.agree hk hc hpj hjL hq
 have h0j := hc.mono 0 j (by omega) hjL
 have hS := I.sim.cut hmc hag (fun g hg => Nat.lt_of_lt_of_le (hgl g hg) h0j)
 have hl : ∀ b, (As j).get b ≠ .dead → H.get b ≠ .dead := fun b hb => by rw [hag b (hmc.live_lt hb)]; exact hb
 refine ⟨hS, ⟨⟨fun b hb => ⟨I.step.le.dom b hb, Nat.lt_of_lt_of_le (h01 b hb) h0j⟩, I.step.le.r, I.step.le.s, I.step.le.k, I.step.le.e⟩, hS, h0j, I.step.hsz, I.step.frame, fun b hb => I.step.img b (hl b hb)⟩⟩
theorem Inv.eff (hk : drawOk ops = true) (hc : Course P ng ro base w0 ops S es As 0 L) (hok : ∀ o ∈ ops.toList, dstOk a1.tmps.size ng o = true) (hgl : ∀ g, g < ng → g < (As 0).size) (h01 : ∀ b, m1.dom b → b < (As 0).size)
 (hro : ro ≤ (As 0).size) (hcanon : ∀ k, k ≤ L → ∃ mk wk ak, Sim ng ro base w0 mk (As k) wk ∧ EnvRel mk (es k) (Act.tmps ak) ∧ ak.tmps.size = a1.tmps.size)
 (I : Inv P ng ro base w0 ops es As L m1 w1 a1 D p m H a w) {i : Nat} (h : MayCome ops D i) (hi : i < L) {o : Oper} (ho : ops[i]? = some o) (hn : isEff o.op = true)
 {Q : Exit → Act → World → Prop} {K : Act → World → Prop} (hK : ∀ m' H' a' w', Inv P ng ro base w0 ops es As L m1 w1 a1 (fun x => D x ∨ x = i) (i + 1) m' H' a' w' → K a' w') : wpOp P ops Q i K a w := by
 have hw := I.wanted hk h (by omega) ho
 obtain ⟨hpi, hch⟩ := I.chain hk h ho hn
 have hq : ∀ x ox, p ≤ x → x < i → ops[x]? = some ox → isEff ox.op = false ∧ (isNew ox.op = true → D x) := by
  intro x ox h1 h2 hox
  refine ⟨?_, fun hnw => hch x ox h2 hox (.inr hnw)⟩
  cases hex : isEff ox.op with
  | false => rfl
  | true => have := I.effD x ox hox hex (hch x ox h2 hox (.inl hex)); omega
 have hag := I.agree hk hc hpi (by omega) hq
 have hinL : ∀ x, D x ∨ x = i → x < L := fun x hx => by
  rcases hx with hx | rfl
  ·exact I.inL x hx
  ·exact hi
 have heffD : ∀ x ox, ops[x]? = some ox → isEff ox.op = true → (D x ∨ x = i) → x < i + 1 := fun x ox hox hex hx => by
  rcases hx with hx | rfl
  ·have := I.effD x ox hox hex hx; omega
  ·omega
 have hlowE : ∀ x ox, ops[x]? = some ox → x < i + 1 → isEff ox.op = true ∨ isNew ox.op = true → D x ∨ x = i := fun x ox h1 h2 h3 => by
  by_cases hx : x = i
  ·exact .inr hx
  ·exact .inl (hch x ox (by omega) h1 h3)
 unfold wpOp
 simp only [ho, hw]
 obtain ⟨o', ho', hs⟩ := hc.step i (Nat.zero_le _) hi
 rw [ho] at ho'; cases ho'
 rcases hs with ⟨hwn, he, hA⟩ | ⟨hwy, v, he, hheld, hs⟩
 ·simp only [hwn, Bool.false_eq_true, if_false]
  refine hK m H (a.put o.dst undef) w ⟨h.closed I.closed, hinL, by omega, heffD, hlowE, I.sim, ?_, ?_, ?_, I.hsize, I.tmps' hk hc h hi ho hok (.refl m) (.undef m) he, put_size.trans I.tsz, put_defers.trans I.dfr, I.step⟩
  ·intro b hb; rw [hA] at hb ⊢; exact hag b hb
  ·intro x hx hpx b h1 h2
   rcases hx with hx | rfl
   ·exact I.up x hx (by omega) b h1 h2
   ·omega
  ·intro b hb
   rcases I.dom b hb with h1 | ⟨x, h1, h2, h3, h4⟩
   ·left; have := hc.mono p (i + 1) (by omega) (by omega); omega
   ·rcases Nat.lt_trichotomy x i with hx | hx | hx
    ·left; have := hc.mono (x + 1) (i + 1) (by omega) (by omega); omega
    ·subst hx; exact absurd h1 h.1
    ·exact .inr ⟨x, .inl h1, by omega, h3, h4⟩
 ·simp only [hwy, if_true]
  left
  rcases hs with ⟨hn', _⟩ | ⟨_, hop, hgrow⟩
  ·rw [hn] at hn'; cases hn'
  ·obtain ⟨mc, wc, ac, c1, c2, c3⟩ := hcanon i (by omega)
   obtain ⟨hS, _⟩ := I.cut hk hc hok hgl h01 hpi (by omega) hq c1
   have ho2 := hok o (by have := Array.mem_of_getElem? ho; simpa using this)
   have hevc := AM.evals c1 c2 (o := o) (n := ac.tmps.size) (by rw [c3]; exact ho2)
   have hev := I.evals hk h (by omega) ho hok
   refine hop (m.cut (As i).size) w a hS (fun x hx => VRel.cut c1.dlt (hev x hx) (hevc x hx)) K Q fun m2 w' v' hst hv' => ?_
   have hiL := hc.mono (i + 1) L (by omega) (Nat.le_refl _)
   have hHL := I.hsize
   have hi1 := hc.mono i (i + 1) (by omega) (by omega)
   have early : ∀ b, m.dom b → (As i).size ≤ b → (As (i + 1)).size ≤ b ∧ ∃ x, D x ∧ i + 1 ≤ x ∧ (As x).size ≤ b ∧ b < (As (x + 1)).size := by
    intro b hb hbi
    rcases I.dom b hb with h1 | ⟨x, h1, h2, h3, h4⟩
    ·have := hc.mono p i hpi (by omega); omega
    ·have hx : i < x := by
      rcases Nat.lt_trichotomy x i with hx | hx | hx
      ·have := hc.mono (x + 1) i (by omega) (by omega); omega
      ·subst hx; exact absurd h1 h.1
      ·exact hx
     have := hc.mono (i + 1) x (by omega) (Nat.le_of_lt (I.inL x h1))
     exact ⟨by omega, x, h1, by omega, h3, h4⟩
   let N := (As (i + 1)).size
   let m' : Emb := { dom := fun b => m2.dom b ∨ (m.dom b ∧ (As i).size ≤ b), r := fun b => if b < N then m2.r b else m.r b, s := fun b => if b < N then m2.s b else m.s b, k := fun b => if b < N then m2.k b else m.k b, e := fun b => if b < N then m2.e b else m.e b }
   let H' : AH := ⟨fun b => if b < N then (As (i + 1)).get b else H.get b, H.size⟩
   have hm2lt : ∀ b, m2.dom b → b < N := fun b hb => hst.sim.dlt b hb
   have hmm : ∀ b, m.dom b → (b < N → m2.dom b ∧ m2.r b = m.r b ∧ m2.s b = m.s b ∧ m2.k b = m.k b ∧ m2.e b = m.e b) ∧ m'.dom b := by
    intro b hb
    by_cases hbi : b < (As i).size
    ·have hcut : (m.cut (As i).size).dom b := ⟨hb, hbi⟩
     exact ⟨fun _ => ⟨hst.le.dom b hcut, hst.le.r b hcut, hst.le.s b hcut, hst.le.k b hcut, hst.le.e b hcut⟩, .inl (hst.le.dom b hcut)⟩
    ·have := (early b hb (by omega)).1
     exact ⟨fun hbN => absurd hbN (by show ¬ b < N; omega), .inr ⟨hb, by omega⟩⟩
   have hle : m.Le m' := by
    refine ⟨fun b hb => (hmm b hb).2, fun b hb => ?_, fun b hb => ?_, fun b hb => ?_, fun b hb => ?_⟩ <;> (show (if b < N then _ else _) = _) <;> (by_cases hbN : b < N <;> simp only [hbN, if_true, if_false])
    ·exact ((hmm b hb).1 hbN).2.1
    ·exact ((hmm b hb).1 hbN).2.2.1
    ·exact ((hmm b hb).1 hbN).2.2.2.1
    ·exact ((hmm b hb).1 hbN).2.2.2.2
   have hle2 : m2.Le m' := ⟨fun b hb => .inl hb, fun b hb => if_pos (hm2lt b hb), fun b hb => if_pos (hm2lt b hb), fun b hb => if_pos (hm2lt b hb), fun b hb => if_pos (hm2lt b hb)⟩
   have hlo : ∀ b, b < N → H'.get b = (As (i + 1)).get b := fun b hb => if_pos hb
   have hhi : ∀ b, ¬ b < N → H'.get b = H.get b := fun b hb => if_neg hb
   have hliveI : ∀ b, (As i).get b ≠ .dead → H.get b ≠ .dead := fun b hb => by rw [hag b (c1.live_lt hb)]; exact hb
   have hroN : ro ≤ N := Nat.le_trans hro (hc.mono 0 (i + 1) (by omega) (by omega))
   have apart : ∀ b, ¬ b < N → H.get b ≠ .dead → ∀ b0, (As i).get b0 ≠ .dead → m.r b0 ≠ m.r b := by
    intro b hb hl b0 hb0 he0
    have hb0i := c1.live_lt hb0
    have hb0l := hliveI b0 hb0
    have hbro : ro ≤ b := by omega
    rcases Nat.lt_or_ge b0 ro with h1 | h1
    ·have := I.sim.lo b0 hb0l h1; have := I.sim.rw b hl hbro; omega
    ·have := I.sim.inj b0 b hb0l hl h1 hbro he0; omega
   have hrow : ∀ b, ¬ b < N → H.get b ≠ .dead → w'.heap[m.r b]? = w.heap[m.r b]? := fun b hb hl =>
    hst.frame (m.r b) (I.sim.lt hl) (fun b0 hb0 => apart b hb hl b0 hb0)
   have hr' : ∀ b, ¬ b < N → m'.r b = m.r b := fun b hb => if_neg hb
   have hr2 : ∀ b, b < N → m'.r b = m2.r b := fun b hb => if_pos hb
   have hS' : Sim ng ro base w0 m' H' w' := by
    refine ⟨fun g hg => ?_, ?_, ?_, ?_, ?_, ?_, ?_, hst.sim.bl, I.sim.rl, hst.sim.old⟩
    ·obtain ⟨h1, h2, h3⟩ := I.sim.glob g hg
     exact ⟨hle.dom g h1, (hle.r g h1).trans h2, (hle.s g h1).trans h3⟩
    ·rintro b (hb | ⟨hb, _⟩)
     ·have := hm2lt b hb; show b < H.size; omega
     ·exact I.sim.dlt b hb
    ·intro b c e hb
     by_cases hbN : b < N
     ·rw [hlo b hbN] at hb
      obtain ⟨g1, c', el, fz, g2, g3, g4, g5, g6, g7⟩ := hst.sim.cells b c e hb
      exact ⟨hle2.dom b g1, c', el, fz, by rw [hle2.r b g1]; exact g2, by rw [hle2.e b g1, hle2.s b g1]; exact g3, by rw [hle2.k b g1]; exact g4, by rw [hle2.s b g1]; exact g5, by rw [hle2.s b g1]; exact g6.mono hle2, g7⟩
     ·rw [hhi b hbN] at hb
      obtain ⟨g1, c', el, fz, g2, g3, g4, g5, g6, g7⟩ := I.sim.cells b c e hb
      exact ⟨hle.dom b g1, c', el, fz, by rw [hle.r b g1, hrow b hbN (by rw [hb]; simp)]; exact g2, by rw [hle.e b g1, hle.s b g1]; exact g3, by rw [hle.k b g1]; exact g4, by rw [hle.s b g1]; exact g5,
       by rw [hle.s b g1]; exact g6.mono hle, g7⟩
    ·intro b xs hb
     by_cases hbN : b < N
     ·rw [hlo b hbN] at hb
      obtain ⟨g1, es', cl, g2, g3⟩ := hst.sim.maps b xs hb
      exact ⟨hle2.dom b g1, es', cl, by rw [hle2.r b g1]; exact g2, g3.mono hle2⟩
     ·rw [hhi b hbN] at hb
      obtain ⟨g1, es', cl, g2, g3⟩ := I.sim.maps b xs hb
      exact ⟨hle.dom b g1, es', cl, by rw [hle.r b g1, hrow b hbN (by rw [hb]; simp)]; exact g2, g3.mono hle⟩
    ·intro b hb hbo
     by_cases hbN : b < N
     ·rw [hlo b hbN] at hb; rw [hr2 b hbN]; exact hst.sim.rw b hb hbo
     ·rw [hhi b hbN] at hb; rw [hr' b hbN]; exact I.sim.rw b hb hbo
    ·have cross : ∀ b b', b < N → ¬ b' < N → (As (i + 1)).get b ≠ .dead → H.get b' ≠ .dead → m2.r b ≠ m.r b' := by
      intro b b' hb hb' hl hl' he'
      rcases hst.img b hl with ⟨b0, h0, h1⟩ | h1
      ·exact apart b' hb' hl' b0 h0 (h1.trans he')
      ·have := I.sim.lt hl'; omega
     intro b b' hb hb' hbo hbo' he'
     by_cases hbN : b < N <;> by_cases hbN' : b' < N
     ·rw [hlo b hbN] at hb; rw [hlo b' hbN'] at hb'; rw [hr2 b hbN, hr2 b' hbN'] at he'; exact hst.sim.inj b b' hb hb' hbo hbo' he'
     ·rw [hlo b hbN] at hb; rw [hhi b' hbN'] at hb'; rw [hr2 b hbN, hr' b' hbN'] at he'; exact absurd he' (cross b b' hbN hbN' hb hb')
     ·rw [hhi b hbN] at hb; rw [hlo b' hbN'] at hb'; rw [hr' b hbN, hr2 b' hbN'] at he'; exact absurd he'.symm (cross b' b hbN' hbN hb' hb)
     ·rw [hhi b hbN] at hb; rw [hhi b' hbN'] at hb'; rw [hr' b hbN, hr' b' hbN'] at he'; exact I.sim.inj b b' hb hb' hbo hbo' he'
    ·intro b hb hbo
     have hbN : b < N := by omega
     rw [hlo b hbN] at hb; rw [hr2 b hbN]; exact hst.sim.lo b hb hbo
   have hstep : Step ng ro base w0 m H w m' H' w' := by
    refine ⟨hle, hS', Nat.le_refl _, hst.hsz, fun r hr hn' => hst.frame r hr (fun b hb => hn' b (hliveI b hb)), fun b hb => ?_⟩
    by_cases hbN : b < N
    ·rw [hlo b hbN] at hb
     rcases hst.img b hb with ⟨b0, h0, h1⟩ | h1
     ·exact .inl ⟨b0, hliveI b0 h0, by rw [hr2 b hbN]; exact h1⟩
     ·exact .inr (by rw [hr2 b hbN]; exact h1)
    ·rw [hhi b hbN] at hb
     exact .inl ⟨b, hb, (hr' b hbN).symm⟩
   refine hK m' H' (a.put o.dst v') w' ⟨h.closed I.closed, hinL, by omega, heffD, hlowE, hS', hlo, ?_, ?_, I.hsize, I.tmps' hk hc h hi ho hok hle (hv'.mono hle2) he, put_size.trans I.tsz, put_defers.trans I.dfr, I.step.trans hstep⟩
   ·intro x hx hpx b h1 h2
    rcases hx with hx | rfl
    ·have := hc.mono (i + 1) x (by omega) (Nat.le_of_lt (I.inL x hx))
     rw [hhi b (by show ¬ b < N; omega)]
     exact I.up x hx (by omega) b h1 h2
    ·omega
   ·rintro b (hb | ⟨hb, hbi⟩)
    ·exact .inl (hm2lt b hb)
    ·obtain ⟨_, x, h1, h2, h3, h4⟩ := early b hb hbi
     exact .inr ⟨x, .inl h1, h2, h3, h4⟩
end
end Go.AM
namespace Go.AM
open Go Go.RowKit
set_option linter.unusedVariables false
section
variable {P : Program} {ng ro base : Nat} {w0 : World}
theorem Below.drawn {w : World} (h : Below base w0 w) : Below base w0 { w with drawn := w.drawn + 1 } := by
 exact ⟨h.os, h.tape, h.output, h.size, h.block⟩
theorem Sim.begin {m : Emb} {A : AH} {w : World} (h : Sim ng ro base w0 m A w) {n : Nat} (hn : A.size ≤ n) :
 Step ng ro base w0 m A w m ⟨A.get, n⟩ { w with drawn := w.drawn + 1 } := by
 refine ⟨.refl m, ⟨h.glob, fun b hb => Nat.lt_of_lt_of_le (h.dlt b hb) hn, h.cells, h.maps, h.rw, h.inj, h.lo, h.bl, Nat.le_trans h.rl hn, Below.drawn h.old⟩, hn, Nat.le_refl _, fun _ _ _ => rfl, fun b hb => .inl ⟨b, hb, rfl⟩⟩
theorem count_set {l : Array Bool} {i : Nat} (h : l.getD i true = false) : (l.setIfInBounds i true).toList.count false + 1 = l.toList.count false := by
 have hlt : i < l.size := by
  rcases Nat.lt_or_ge i l.size with h' | h'
  ·exact h'
  ·rw [Array.getD_eq_getD_getElem?, Array.getElem?_eq_none h'] at h; simp at h
 have hv : l[i] = false := by simpa [Array.getD_eq_getD_getElem?, hlt] using h
 have hl : l.toList[i]'(by simpa using hlt) = false := by simpa using hv
 rw [Array.toList_setIfInBounds, List.count_set (by simpa using hlt)]
 have hpos : 0 < l.toList.count false := List.count_pos_iff.2 (by rw [← hl]; exact List.getElem_mem _)
 have e : ((true : Bool) == false) = false := rfl
 simp only [hl, e, beq_self_eq_true, if_true, Bool.false_eq_true, if_false]
 omega
variable {ops : Array Oper} {S : Nat → Prop} {es : Nat → Env} {As : Nat → AH} {L : Nat}
variable {m1 : Emb} {w1 : World} {a1 : Act} {D : Nat → Prop} {p : Nat} {m : Emb} {H : AH} {a : Act} {w : World}
theorem Inv.pan (hk : drawOk ops = true) (hc : Course P ng ro base w0 ops S es As 0 L) (hok : ∀ o ∈ ops.toList, dstOk a1.tmps.size ng o = true) (hgl : ∀ g, g < ng → g < (As 0).size) (h01 : ∀ b, m1.dom b → b < (As 0).size)
 (hcanon : ∀ k, k ≤ L → ∃ mk wk ak, Sim ng ro base w0 mk (As k) wk ∧ EnvRel mk (es k) (Act.tmps ak) ∧ ak.tmps.size = a1.tmps.size)
 (I : Inv P ng ro base w0 ops es As L m1 w1 a1 D p m H a w) (h : MayCome ops D L) {o : Oper} (ho : ops[L]? = some o) (hn : isEff o.op = true) (hwy : aWanted ops o (es L) = true) {v : Value} {A' : AH}
 (hop : OpPan P ng ro base w0 o (es L) (As L) v A') {e' : Env} {Q : Exit → Act → World → Prop} (hQ : Ends ng ro base w0 m1 (As 0) w1 a1 A' e' Q (.pan v)) {K : Act → World → Prop} : wpOp P ops Q L K a w := by
 have hw := I.wanted hk h (Nat.le_refl _) ho
 obtain ⟨hpi, hch⟩ := I.chain hk h ho hn
 have hq : ∀ x ox, p ≤ x → x < L → ops[x]? = some ox → isEff ox.op = false ∧ (isNew ox.op = true → D x) := by
  intro x ox h1 h2 hox
  refine ⟨?_, fun hnw => hch x ox h2 hox (.inr hnw)⟩
  cases hex : isEff ox.op with
  | false => rfl
  | true => have := I.effD x ox hox hex (hch x ox h2 hox (.inl hex)); omega
 obtain ⟨mc, wc, ac, c1, c2, c3⟩ := hcanon L (Nat.le_refl _)
 obtain ⟨hS, hst0⟩ := I.cut hk hc hok hgl h01 hpi (Nat.le_refl _) hq c1
 have ho2 := hok o (by have := Array.mem_of_getElem? ho; simpa using this)
 have hevc := AM.evals c1 c2 (o := o) (n := ac.tmps.size) (by rw [c3]; exact ho2)
 have hev := I.evals hk h (Nat.le_refl _) ho hok
 unfold wpOp
 simp only [ho, hw, hwy, if_true]
 left
 refine hop (m.cut (As L).size) w a hS (fun x hx => VRel.cut c1.dlt (hev x hx) (hevc x hx)) K Q fun m2 w' v' hst hv' => ?_
 exact hQ m2 a w' (hst0.trans hst) I.tsz I.dfr v' hv'
theorem Inv.done (hk : drawOk ops = true) (hc : Course P ng ro base w0 ops S es As 0 L) (hok : ∀ o ∈ ops.toList, dstOk a1.tmps.size ng o = true) (hgl : ∀ g, g < ng → g < (As 0).size) (h01 : ∀ b, m1.dom b → b < (As 0).size)
 (hcanon : ∀ k, k ≤ L → ∃ mk wk ak, Sim ng ro base w0 mk (As k) wk ∧ EnvRel mk (es k) (Act.tmps ak) ∧ ak.tmps.size = a1.tmps.size)
 (I : Inv P ng ro base w0 ops es As L m1 w1 a1 D p m H a w) (hL : L = ops.size) (hD : ∀ i, i < L → D i) {Q : Exit → Act → World → Prop} (hQ : Ends ng ro base w0 m1 (As 0) w1 a1 (As L) (es L) Q .normal) : Q .normal a w := by
 obtain ⟨mc, wc, ac, c1, c2, c3⟩ := hcanon L (Nat.le_refl _)
 obtain ⟨hS, hst0⟩ := I.cut hk hc hok hgl h01 I.pL (Nat.le_refl _) (fun x ox h1 h2 hox => by
  refine ⟨?_, fun _ => hD x h2⟩
  cases hex : isEff ox.op with
  | false => rfl
  | true => have := I.effD x ox hox hex (hD x h2); omega) c1
 refine hQ _ a w hst0 I.tsz I.dfr fun t => ?_
 refine VRel.cut c1.dlt (I.tmps t L (Nat.le_refl _) (fun i o hi _ _ => hD i hi) (fun i o hi ho _ => ?_)) (c2 t)
 rw [Array.getElem?_eq_none (by omega)] at ho
 cases ho
theorem drawn_sound (hm : P.follows .mixedOrders = true) (hk : drawOk ops = true) {id : Nat} {e e' : Env} {A A' : AH} {x : AExit} (ht : Tr P ng ro base w0 ops S (List.range ops.size) e A x e' A') :
 CodeSound P ng ro base w0 (.region id ops true) e A x e' A' := by
 intro m1 w1 a1 Q hS hE hds hQ
 have hok : ∀ o ∈ ops.toList, dstOk a1.tmps.size ng o = true := by
  unfold dstsOk at hds
  exact List.all_eq_true.1 hds
 rw [List.range_eq_range'] at ht
 obtain ⟨es, As, L, he0, hA0, _, hc, hend⟩ := ht.course
 subst he0; subst hA0
 have hLn : L ≤ ops.size := by
  rcases hend with ⟨h, _⟩ | ⟨h, _⟩ <;> omega
 have hgl : ∀ g, g < ng → g < (As 0).size := fun g hg => hS.dlt g (hS.glob g hg).1
 have hcanon := hc.canon hLn hS hE hok
 have hwf : ∀ k, k ≤ L → Wf (As k) := fun k hkL => by obtain ⟨_, _, _, h, _⟩ := hcanon k hkL; exact h.wf
 have hm0 := hc.mono 0 L (Nat.zero_le _) (Nat.le_refl _)
 apply wp_region_any hm
 have main : ∀ (fuel : Nat) (listed : Array Bool) (p : Nat) (m : Emb) (H : AH) (a : Act) (w : World), listed.size = ops.size → listed.toList.count false = fuel →
  Inv P ng ro base w0 ops es As L m1 w1 a1 (fun i => listed.getD i false = true) p m H a w → wpAny P .any ops Q fuel listed a w := by
  intro fuel
  have none : ∀ (listed : Array Bool) (p : Nat) (m : Emb) (H : AH) (a : Act) (w : World), listed.size = ops.size → Inv P ng ro base w0 ops es As L m1 w1 a1 (fun i => listed.getD i false = true) p m H a w →
   Region.ready .any ops listed = [] → Q .normal a w := by
   intro listed p m H a w hsz I hr
   have hall : ∀ i, i < ops.size → listed.getD i false = true := by
    intro i
    induction i using Nat.strongRecOn with
    | _ i ih =>
      intro hi
      cases hb : listed.getD i false with
      | true => rfl
      | false =>
        exfalso
        have : i ∈ Region.ready .any ops listed := by
         refine mem_ready.2 ⟨?_, ops[i], by simp [hi], fun ed hed hbd => ?_⟩
         ·have hil : i < listed.size := by omega
          simp only [Array.getD_eq_getD_getElem?, Array.getElem?_eq_getElem hil, Option.getD_some] at hb ⊢
          exact hb
         ·have hk' := hk
          unfold drawOk at hk'
          have := List.all_eq_true.1 hk' i (List.mem_range.2 hi)
          simp only [Array.getElem?_eq_getElem hi, Bool.and_eq_true] at this
          have := List.all_eq_true.1 this.1 ed (by simpa using hed)
          have hlt : ed.on < i := by simpa [hbd] using this
          exact ih ed.on hlt (by omega)
        rw [hr] at this
        cases this
   rcases hend with ⟨h1, h2, h3, h4⟩ | ⟨h1, _⟩
   ·subst h2; subst h3; subst h4
    exact I.done hk hc hok hgl hS.dlt hcanon (by omega) (fun i hi => hall i (by omega)) hQ
   ·have := I.inL L (hall L (by omega))
    omega
  induction fuel with
  | zero =>
    intro listed p m H a w hsz hcnt I
    have hr : Region.ready .any ops listed = [] := by
     cases hr : Region.ready .any ops listed with
     | nil => rfl
     | cons i l =>
       have hi : i ∈ Region.ready .any ops listed := by rw [hr]; simp
       have := count_set (mem_ready.1 hi).1
       omega
    exact ⟨hr, none listed p m H a w hsz I hr⟩
  | succ fuel ih =>
    intro listed p m H a w hsz hcnt I
    refine ⟨none listed p m H a w hsz I, fun i hi => ?_⟩
    obtain ⟨h0, o, ho, hw⟩ := mem_ready.1 hi
    have hlt : i < ops.size := by
     rcases Nat.lt_or_ge i ops.size with h' | h'
     ·exact h'
     ·rw [Array.getElem?_eq_none h'] at ho; cases ho
    have hil : i < listed.size := by omega
    have hmc : MayCome ops (fun i => listed.getD i false = true) i := by
     refine ⟨?_, o, ho, hw⟩
     simp only [Array.getD_eq_getD_getElem?, Array.getElem?_eq_getElem hil, Option.getD_some] at h0 ⊢
     rw [h0]; simp
    have hDeq : (fun x => (listed.setIfInBounds i true).getD x false = true) = (fun x => listed.getD x false = true ∨ x = i) := by
     funext x
     apply propext
     by_cases hx : i = x
     ·subst hx; simp [hil]
     ·rw [getD_set_ne false hx]
      constructor
      ·exact .inl
      ·rintro (h | h)
       ·exact h
       ·exact absurd h.symm hx
    have hK : ∀ p' m' H' a' w', Inv P ng ro base w0 ops es As L m1 w1 a1 (fun x => listed.getD x false = true ∨ x = i) p' m' H' a' w' → wpAny P .any ops Q fuel (listed.setIfInBounds i true) a' w' := by
     intro p' m' H' a' w' I'
     refine ih _ p' m' H' a' w' (by simpa using hsz) (by have := count_set h0; omega) ?_
     rw [hDeq]
     exact I'
    rcases Nat.lt_trichotomy i L with hiL | hiL | hiL
    ·cases hn : isEff o.op with
     | false => exact I.quiet hk hc hwf hS.rl hok hmc hiL ho hn (fun m' H' a' w' I' => hK _ m' H' a' w' I')
     | true => exact I.eff hk hc hok hgl hS.dlt hS.rl hcanon hmc hiL ho hn (fun m' H' a' w' I' => hK _ m' H' a' w' I')
    ·subst hiL
     rcases hend with ⟨h1, _⟩ | ⟨_, o', v, rfl, ho', hwy, hn, hop, _⟩
     ·omega
     ·rw [ho] at ho'; cases ho'
      exact I.pan hk hc hok hgl hS.dlt hcanon hmc ho hn hwy hop hQ
    ·exfalso
     rcases hend with ⟨h1, _⟩ | ⟨_, o', v, rfl, ho', hwy, hn, hop, hal⟩
     ·omega
     ·unfold allWait at hal
      have := List.all_eq_true.1 hal i (List.mem_range.2 hlt)
      have hb : bitAt (Region.before ops) i L = true := by
       rcases Bool.or_eq_true_iff.1 this with h | h
       ·have := of_decide_eq_true h; omega
       ·exact h
      have := I.inL L (hmc.bits hk I.closed L hb)
      omega
 have hst := hS.begin (n := (As L).size) hm0
 have hno : ∀ i, (Array.replicate ops.size false).getD i false = true → False := by
  intro i hi
  rw [Array.getD_eq_getD_getElem?, Array.getElem?_replicate] at hi
  split at hi <;> simp at hi
 refine main ops.size _ 0 m1 ⟨(As 0).get, (As L).size⟩ a1 _ (by simp) (by simp) ⟨?_, ?_, by omega, ?_, ?_, hst.sim, fun b hb => rfl, ?_, ?_, Nat.le_refl _, ?_, rfl, rfl, hst⟩
 ·intro j o _ hj; exact (hno j hj).elim
 ·intro i hi; exact (hno i hi).elim
 ·intro i o _ _ hi; exact (hno i hi).elim
 ·intro i o _ hi; omega
 ·intro i hi; exact (hno i hi).elim
 ·intro b hb; exact .inl (hS.dlt b hb)
 ·intro t k hkL h1 h2
  have := hc.slot (t := t) (i := 0) (j := k) (by omega) hkL (fun x ox _ hx hox hd => hno x (h1 x ox hx hox hd))
  rw [this]
  exact hE t
end
end Go.AM
namespace Go.AM
open Go Go.RowKit
set_option linter.all false
theorem aAppend_grows {P : Program} {ro : Nat} {A A1 : AH} {t : TypeId} {s x v : Value} (h : aAppend P ro A t s x = some (v, A1)) : A.size ≤ A1.size := by
 unfold aAppend at h
 repeat' split at h
 all_goals first | (cases h; done) | (cases h; exact Nat.le_refl _) | (cases h; exact Nat.le_succ _)
theorem aOp_grows {P : Program} {ro : Nat} {op : Op} {e : Env} {A A1 : AH} {v : Value} (h : aOp P ro A.size op e A = some (v, A1)) : A.size ≤ A1.size := by
 cases hn : isEff op with
 | false =>
   rcases quiet_at hn h A (fun _ _ _ => rfl) with ⟨rfl, _⟩ | ⟨_, ob, rfl, _⟩
   ·exact Nat.le_refl _
   ·exact Nat.le_max_left _ _
 | true =>
   cases op <;> try (cases hn; done)
   case store t x y =>
    simp only [aOp] at h
    split at h
    ·obtain ⟨u, hu, he⟩ := Option.map_eq_some_iff.1 h
     cases he
     unfold aStore at hu
     repeat' split at hu
     all_goals first | (cases hu; done) | (cases hu; exact Nat.le_refl _)
    ·cases h
   case mapUpdate t x y z =>
    simp only [aOp] at h
    obtain ⟨u, hu, he⟩ := Option.map_eq_some_iff.1 h
    cases he
    unfold aMapSet at hu
    repeat' split at hu
    all_goals try (cases hu; done)
    obtain ⟨u, hu, he⟩ := Option.map_eq_some_iff.1 hu
    cases he
    exact Nat.le_refl _
   case call c =>
    simp only [aOp] at h
    split at h
    ·rename_i hc; simp [isEff, hc] at hn
    ·split at h
     ·split at h
      ·exact aAppend_grows h
      ·exact aAppend_grows h
      ·cases h
     ·cases h
    ·rename_i hc; simp [isEff, hc] at hn
    ·cases h
   all_goals cases h
section
variable {P : Program} {ng ro base : Nat} {w0 : World}
theorem load_ok' {m : Emb} {A : AH} {w : World} (hS : Sim ng ro base w0 m A w) {t : TypeId} {a : Addr} {v a' : Value} (ha : VRel m (.pointer (some a)) a') (h : aLoad P A t a = some v) :
 ∃ v', (do loadVar t (← asAddr a') : Sem Value).run P w = .ok v' w ∧ VRel m v v' := by
 obtain ⟨v', h1, h2⟩ := load_ok (P := P) hS ha h
 obtain ⟨b, o, rfl, rfl, _⟩ := ha.ptr_inv
 exact ⟨v', by simpa [Instr.loadAt, Instr.sureAddr, asAddr] using h1, h2⟩
theorem resVals_ok {m : Emb} {A : AH} {w : World} {e : Env} {tmps : Array Value} (hS : Sim ng ro base w0 m A w) (hE : EnvRel m e tmps) : ∀ (rs : List ResultVar) (vs : List Value), aResVals P A e rs = some vs →
 ∃ vs', VRels m vs vs' ∧ ∀ f : ResultVar → Sem Value, (∀ u, f (.tmp u) = pure (tmps.getD u undef)) → (∀ a t, f (.cell a t) = (do loadVar t (← asAddr (tmps.getD a undef)))) → (rs.mapM f).run P w = .ok vs' w := by
 intro rs
 induction rs with
 | nil => intro vs h; cases h; exact ⟨[], .nil, fun f _ _ => by simp⟩
 | cons r rs ih =>
   intro vs h
   cases r with
   | tmp t =>
     simp only [aResVals] at h
     obtain ⟨u, hu, rfl⟩ := Option.map_eq_some_iff.1 h
     obtain ⟨vs', h2, h1⟩ := ih u hu
     refine ⟨tmps.getD t undef :: vs', .cons _ _ _ _ (hE t) h2, fun f hf hc => ?_⟩
     rw [List.mapM_cons, hf]
     simp [h1 f hf hc]
   | cell a t =>
     simp only [aResVals] at h
     split at h
     ·rename_i p hp
      split at h
      ·rename_i v hv
       obtain ⟨u, hu, rfl⟩ := Option.map_eq_some_iff.1 h
       obtain ⟨vs', h2, h1⟩ := ih u hu
       have hr := hE a
       rw [hp] at hr
       obtain ⟨v', h3, h4⟩ := load_ok' (P := P) hS hr hv
       refine ⟨v' :: vs', .cons _ _ _ _ h4 h2, fun f hf hc => ?_⟩
       rw [List.mapM_cons, hc, Sem.run_bind, h3]
       simp [h1 f hf hc]
      ·cases h
     ·cases h
theorem results_ok {m : Emb} {A : AH} {w : World} {e : Env} {tmps : Array Value} (hS : Sim ng ro base w0 m A w) (hE : EnvRel m e tmps) {fn : Func} {v : Value} (h : aResults P A e fn = some v) :
 ∃ v', (results fn tmps).run P w = .ok v' w ∧ VRel m v v' := by
 unfold aResults at h
 obtain ⟨vs, hvs, rfl⟩ := Option.map_eq_some_iff.1 h
 unfold results
 obtain ⟨vs', h2, h1⟩ := resVals_ok (P := P) (tmps := tmps) hS hE _ _ hvs
 have hr : fn.results = fn.results.toList.toArray := by simp
 rw [hr, List.mapM_toArray]
 simp only [Sem.run_bind, Sem.run_map]
 refine ⟨if h : vs'.toArray.size = 1 then vs'.toArray[0] else .tuple vs'.toArray, ?_, ?_⟩
 ·rw [h1]
  ·simp
  ·intro u; rfl
  ·intro a t; rfl
 ·cases h2 with
  | nil => exact .tuple _ _ .nil
  | cons v v' l l' g1 g2 =>
    cases g2 with
    | nil => exact g1
    | cons v2 v2' l2 l2' g3 g4 =>
      simp only [aTup, List.size_toArray, List.length_cons]
      rw [dif_neg (by omega)]
      exact .tuple _ _ (by simpa using VRels.cons _ _ _ _ g1 (.cons _ _ _ _ g3 g4))
theorem enter_ok {m : Emb} : ∀ {l l' : List Value}, VRels m l l' → ∀ k, EnvRel m (Env.enter l) (l'.toArray ++ Array.replicate k undef)
 | _, _, h, k => by
   intro t
   have main : ∀ {l l' : List Value}, VRels m l l' → ∀ t, VRel m (l.getD t undef) (l'.getD t undef) := by
    intro l l' h
    induction l generalizing l' with
    | nil => cases h; intro t; simpa using VRel.undef m
    | cons a l ih =>
      cases h with
      | cons v v' l l' h1 h2 =>
      intro t
      cases t with
      | zero => simpa using h1
      | succ t => simpa using ih h2 t
   have := main h t
   unfold Env.enter
   rename_i l l'
   have e : (l'.toArray ++ Array.replicate k undef).getD t undef = l'.getD t undef := by
    rw [Array.getD_eq_getD_getElem?, List.getD_eq_getElem?_getD, Array.getElem?_append]
    split
    ·simp
    ·rename_i hl
     have hl' : l'.length ≤ t := by simpa using hl
     rw [List.getElem?_eq_none hl', Array.getElem?_replicate]
     split <;> rfl
   rw [e]
   exact this
def RoundsSound (P : Program) (ng ro base : Nat) (w0 : World) (n : Nat) (c : Code) (e : Env) (A : AH) (x : AExit) (e' : Env) (A' : AH) : Prop :=
 ∀ (m : Emb) (w : World) (a : Act) (Q : Exit → Act → World → Prop), Sim ng ro base w0 m A w → EnvRel m e a.tmps → dstsOk a.tmps.size ng c = true → Ends ng ro base w0 m A w a A' e' Q x → Code.rounds P c Q n a w
def JSound (P : Program) (ng ro base : Nat) (w0 : World) : Judg → AH → Out → AH → Prop
 | .code c e, A, .code x e', A' => CodeSound P ng ro base w0 c e A x e' A' ∧ (∀ b, c = .loop b → ∃ n, RoundsSound P ng ro base w0 n b e A x e' A')
 | .ops ops none l e, A, .code x e', A' => OpsSound P ng ro base w0 ops l e A x e' A'
 | .ops ops (some S) l e, A, .code x e', A' => Tr P ng ro base w0 ops S l e A x e' A'
 | .call f args, A, .call r, A' => CallSound P ng ro base w0 f args A r A'
 | _, _, _, _ => False
theorem Ends.ne {m : Emb} {A : AH} {w : World} {a : Act} {A' : AH} {e' : Env} {Q Q' : Exit → Act → World → Prop} {x : AExit} (h : Ends ng ro base w0 m A w a A' e' Q x) (hx : x ≠ .normal) (hQ : ∀ y a w, y ≠ .normal → Q y a w → Q' y a w) :
 Ends ng ro base w0 m A w a A' e' Q' x := by
 intro m' a' w' hs h1 h2
 have := h m' a' w' hs h1 h2
 cases x with
 | normal => exact absurd rfl hx
 | exit id => exact fun hE => hQ _ _ _ (by simp) (this hE)
 | ret => exact fun hE => hQ _ _ _ (by simp) (this hE)
 | pan v => exact fun v' hv => hQ _ _ _ (by simp) (this v' hv)
theorem then_ne {K : Act → World → Prop} {Q : Exit → Act → World → Prop} : ∀ (y : Exit) (a : Act) (w : World), y ≠ .normal → Q y a w → Exit.then K Q y a w := by
 intro y a w hy h
 cases y <;> first | exact absurd rfl hy | exact h
theorem Big.sound {X : FuncId → List Value → AH → ARes → AH → Prop} (hng : ng = P.globals.size) (hm : P.follows .mixedOrders = true)
 (hX : ∀ f args A r A', X f args A r A' → CallSound P ng ro base w0 f args A r A' ∧ A.size ≤ A'.size) {j : Judg} {A : AH} {o : Out} {A' : AH} (h : Big P ro X j A o A') : JSound P ng ro base w0 j A o A' ∧ A.size ≤ A'.size := by
 have nl : ∀ {c : Code} {R : Code → Prop}, (∀ b, c ≠ .loop b) → ∀ b, c = .loop b → R b := fun h b hb => absurd hb (h b)
 induction h with
 | skip => exact ⟨⟨fun m w a Q hS hE _ hK => wp_skip (hK m a w (.refl hS) rfl rfl hE), nl (by simp)⟩, Nat.le_refl _⟩
 | seq _ _ ih1 ih2 =>
   rename_i o _ _ _
   cases o with
   | call r => exact ih2.1.elim
   | code x e2 =>
   refine ⟨⟨fun m w a Q hS hE hd hK => ?_, nl (by simp)⟩, Nat.le_trans ih1.2 ih2.2⟩
   simp only [dstsOk, Bool.and_eq_true] at hd
   refine wp_seq (ih1.1.1 m w a _ hS hE hd.1 fun m' a' w' hs h1 h2 hE' => ?_)
   exact ih2.1.1 m' w' a' Q hs.sim hE' (by rw [h1]; exact hd.2) (hK.step hs h1 h2)
 | seqx _ hx ih =>
   refine ⟨⟨fun m w a Q hS hE hd hK => ?_, nl (by simp)⟩, ih.2⟩
   simp only [dstsOk, Bool.and_eq_true] at hd
   exact wp_seq (ih.1.1 m w a _ hS hE hd.1 (hK.ne hx then_ne))
 | cond hc _ ih =>
   rename_i c a0 b0 e A t o A2 _
   cases o with
   | call r => exact ih.1.elim
   | code x e2 =>
   refine ⟨⟨fun m w a Q hS hE hd hK => ?_, nl (by simp)⟩, ih.2⟩
   simp only [dstsOk, Bool.and_eq_true] at hd
   have hev := hE.eval hS hd.1.1
   rw [hc] at hev
   have : a.eval c = .bool t := by
    generalize a.eval c = v' at hev
    cases hev; rfl
   refine wp_cond this ?_
   have := ih.1.1 m w a Q hS hE (by cases t <;> simp [hd.1.2, hd.2]) hK
   exact this
 | block _ ih =>
   refine ⟨⟨fun m w a Q hS hE hd hK => ?_, nl (by simp)⟩, ih.2⟩
   simp only [dstsOk] at hd
   refine wp_block (ih.1.1 m w a _ hS hE hd fun m' a' w' hs h1 h2 hE' => ?_)
   simp only [Exit.inBlock, if_true]
   exact hK m' a' w' hs h1 h2 hE'
 | blockx _ hx ih =>
   rename_i id a0 e A x e2 A2 _
   refine ⟨⟨fun m w a Q hS hE hd hK => ?_, nl (by simp)⟩, ih.2⟩
   simp only [dstsOk] at hd
   refine wp_block (ih.1.1 m w a _ hS hE hd fun m' a' w' hs h1 h2 => ?_)
   have := hK m' a' w' hs h1 h2
   cases x with
   | normal => exact this
   | exit id' =>
     intro hE'
     simp only [Exit.inBlock]
     rw [if_neg (fun e => hx (by rw [e]))]
     exact this hE'
   | ret => exact this
   | pan v => exact this
 | loop _ _ ih1 ih2 =>
   rename_i a0 e A e1 A1 o A2 _ _
   cases o with
   | call r => exact ih2.1.elim
   | code x e2 =>
   obtain ⟨n, hn⟩ := ih2.1.2 a0 rfl
   have hr : RoundsSound P ng ro base w0 (n + 1) a0 e A x e2 A2 := by
    intro m w a Q hS hE hd hK
    rw [rounds_succ]
    refine ih1.1.1 m w a _ hS hE hd fun m' a' w' hs h1 h2 hE' => ?_
    exact hn m' w' a' Q hs.sim hE' (by rw [h1]; exact hd) (hK.step hs h1 h2)
   refine ⟨⟨fun m w a Q hS hE hd hK => wp_loop_rounds (n + 1) (hr m w a Q hS hE (by simpa [dstsOk] using hd) hK), fun b hb => ?_⟩, Nat.le_trans ih1.2 ih2.2⟩
   cases hb
   exact ⟨n + 1, hr⟩
 | loopx _ hx ih =>
   rename_i a0 e A x e2 A2 _
   have hr : RoundsSound P ng ro base w0 1 a0 e A x e2 A2 := by
    intro m w a Q hS hE hd hK
    rw [rounds_succ]
    exact ih.1.1 m w a _ hS hE hd (hK.ne hx then_ne)
   refine ⟨⟨fun m w a Q hS hE hd hK => wp_loop_rounds 1 (hr m w a Q hS hE (by simpa [dstsOk] using hd) hK), fun b hb => ?_⟩, ih.2⟩
   cases hb
   exact ⟨1, hr⟩
 | exit => exact ⟨⟨fun m w a Q hS hE _ hK => wp_exit (hK m a w (.refl hS) rfl rfl hE), nl (by simp)⟩, Nat.le_refl _⟩
 | ret => exact ⟨⟨fun m w a Q hS hE _ hK => wp_ret (hK m a w (.refl hS) rfl rfl hE), nl (by simp)⟩, Nat.le_refl _⟩
 | region _ ih =>
   rename_i id ops e A o A2 _
   cases o with
   | call r => exact ih.1.elim
   | code x e2 =>
   refine ⟨⟨fun m w a Q hS hE hd hK => wp_region (ih.1 m w a Q hS hE ?_ hK), nl (by simp)⟩, ih.2⟩
   unfold dstsOk at hd
   exact List.all_eq_true.1 hd
 | drawn S hk _ ih =>
   rename_i id ops e A o A2 _
   cases o with
   | call r => exact ih.1.elim
   | code x e2 => exact ⟨⟨drawn_sound hm hk ih.1, nl (by simp)⟩, ih.2⟩
 | nil =>
   rename_i ops D e A
   cases D with
   | none => exact ⟨OpsSound.nil, Nat.le_refl _⟩
   | some S => exact ⟨Tr.nil, Nat.le_refl _⟩
 | pass ho hw _ ih =>
   rename_i ops D i l e A o r A2 _
   cases r with
   | call r => cases D <;> exact ih.1.elim
   | code x e2 =>
   cases D with
   | none => exact ⟨OpsSound.pass ho hw ih.1, ih.2⟩
   | some S => exact ⟨Tr.pass ho hw ih.1, ih.2⟩
 | op ho hw hv hd _ ih =>
   rename_i ops D i l e A o v A1 r A2 _
   have hg := aOp_grows hv
   cases r with
   | call r => cases D <;> exact ih.1.elim
   | code x e2 =>
   cases D with
   | none => exact ⟨OpsSound.op ho hw (opSound_of hv) ih.1, Nat.le_trans hg ih.2⟩
   | some S =>
     cases hn : isEff o.op with
     | false => exact ⟨Tr.quiet ho hw hn hv hd ih.1, Nat.le_trans hg ih.2⟩
     | true => exact ⟨Tr.eff ho hw hn (opSound_of hv) hg hd ih.1, Nat.le_trans hg ih.2⟩
 | call ho hw ht _ hd _ ih1 ih2 =>
   rename_i ops D i l e A o f args v A1 r A2 _ _
   have hs := opSound_call (P := P) (ng := ng) (ro := ro) (base := base) (w0 := w0) ht ih1.1
   have hn : isEff o.op = true := by
    cases hop : o.op <;> rw [hop] at ht <;> simp only [aTarget] at ht <;> try (cases ht; done)
    split at ht
    ·rename_i hc; simp [isEff, hc]
    ·cases ht
   cases r with
   | call r => cases D <;> exact ih2.1.elim
   | code x e2 =>
   cases D with
   | none => exact ⟨OpsSound.op ho hw hs ih2.1, Nat.le_trans ih1.2 ih2.2⟩
   | some S => exact ⟨Tr.eff ho hw hn hs ih1.2 hd ih2.1, Nat.le_trans ih1.2 ih2.2⟩
 | callp ho hw ht _ hd ih =>
   rename_i ops D i l e A o f args v A1 _
   have hs := opPan_call (P := P) (ng := ng) (ro := ro) (base := base) (w0 := w0) ht ih.1
   have hn : isEff o.op = true := by
    cases hop : o.op <;> rw [hop] at ht <;> simp only [aTarget] at ht <;> try (cases ht; done)
    split at ht
    ·rename_i hc; simp [isEff, hc]
    ·cases ht
   cases D with
   | none => exact ⟨OpsSound.pan ho hw hs, ih.2⟩
   | some S => exact ⟨Tr.pan ho hw hn hs (hd rfl), ih.2⟩
 | panic ho hw hx hv => exact ⟨OpsSound.pan ho hw (opPan_panic hx hv), Nat.le_refl _⟩
 | func hf hb hnm hd ha _ hx hr ih =>
   rename_i f args fn c e2 x A A2 v _
   refine ⟨fun m w args' hS hA => .inl ⟨?_, ?_⟩, ih.2⟩
   ·simp [callFunc, hf, hb]
    exact fun e => by rw [e] at hnm; simp at hnm
   ·refine calls_of_wp hf hb (ih.1.1 m w _ _ hS (enter_ok hA _) ?_ ?_)
    ·have hl := hA.length
     have : (args'.toArray ++ Array.replicate (fn.ntmps - args'.toArray.size) undef).size = fn.ntmps := by simp; omega
     rw [this, hng]; exact hd
    ·intro m' a' w' hs h1 h2
     rcases hx with rfl | rfl
     ·intro hE'
      obtain ⟨v', g1, g2⟩ := results_ok (P := P) hs.sim hE' hr
      exact ⟨h2, v', g1, m', hs, g2⟩
     ·intro hE'
      obtain ⟨v', g1, g2⟩ := results_ok (P := P) hs.sim hE' hr
      exact ⟨h2, v', g1, m', hs, g2⟩
 | funcp hf hb hnm hd ha _ ih =>
   rename_i f args fn c e2 A A2 v _
   refine ⟨fun m w args' hS hA => .inl ⟨?_, ?_⟩, ih.2⟩
   ·simp [callFunc, hf, hb]
    exact fun e => by rw [e] at hnm; simp at hnm
   ·refine calls_of_wp hf hb (ih.1.1 m w _ _ hS (enter_ok hA _) ?_ ?_)
    ·have hl := hA.length
     have : (args'.toArray ++ Array.replicate (fn.ntmps - args'.toArray.size) undef).size = fn.ntmps := by simp; omega
     rw [this, hng]; exact hd
    ·intro m' a' w' hs h1 h2 v' hv'
     exact ⟨h2, m', v', rfl, hs, hv'⟩
 | ext h => exact hX _ _ _ _ _ h
end
end Go.AM
namespace Go.AM
open Go Go.RowKit
set_option linter.unusedVariables false
def SimR (ng : Nat) (W : World) (m : Emb) (A : AH) : Prop := Sim ng A.size W.heap.size W m A W
section
variable {ng : Nat} {W : World} {m : Emb} {A : AH}
theorem Sim.start (hn : ng ≤ W.heap.size) : SimR ng W ⟨fun b => b < ng, fun b => b, fun _ => 0, fun b => match W.heap[b]? with | some (.cells c _ _) => c.size | _ => 0, fun _ => 1⟩ ⟨fun _ => .dead, ng⟩ :=
 ⟨fun g hg => ⟨hg, rfl, rfl⟩, fun b hb => hb, fun b c e h => (by cases h), fun b es h => (by cases h), fun b h => absurd rfl h, fun b b' h => absurd rfl h, fun b h => absurd rfl h, Nat.le_refl _, Nat.le_refl _, Below.refl _ _⟩
theorem SimR.add (h : SimR ng W m A) {r s e : Nat} {c : List Value} {c' : Array Value} {el : TypeId} {fz : Nat × Nat} (hr : W.heap[r]? = some (.cells c' el fz)) (hl : s + c.length ≤ c'.size) (hc : CRel m s c c') (he : e < TAG) :
 SimR ng W (m.add A.size r s c'.size e) (A.new (.cells c e)) ∧ m.Le (m.add A.size r s c'.size e) := by
 have hle : m.Le (m.add A.size r s c'.size e) := Emb.add_le (fun hd => Nat.lt_irrefl _ (h.dlt _ hd))
 refine ⟨⟨fun g hg => ?_, ?_, ?_, ?_, fun b hb hlo => ?_, fun b b' hb _ hlo => ?_, fun b hb _ => ?_, h.bl, Nat.le_refl _, h.old⟩, hle⟩
 ·obtain ⟨h1, h2, h3⟩ := h.glob g hg
  exact ⟨hle.dom g h1, (hle.r g h1).trans h2, (hle.s g h1).trans h3⟩
 ·rintro b (hb | rfl)
  ·have := h.dlt b hb; show b < A.size + 1; omega
  ·show A.size < A.size + 1; omega
 ·intro b c0 e0 hb
  by_cases hbn : b = A.size
  ·subst hbn
   rw [AH.gNs] at hb
   cases hb
   exact ⟨.inr rfl, c', el, fz, by simpa using hr, by simpa using ETag.of he, by simp, by simpa using hl, by simpa using hc.mono hle, fun hro => absurd hro (by show ¬ A.size + 1 ≤ A.size; omega)⟩
  ·rw [AH.gNo hbn] at hb
   obtain ⟨g1, c1, el1, fz1, g2, g3, g4, g5, g6, g7⟩ := h.cells b c0 e0 hb
   exact ⟨hle.dom b g1, c1, el1, fz1, by rw [hle.r b g1]; exact g2, by rw [hle.e b g1, hle.s b g1]; exact g3, by rw [hle.k b g1]; exact g4, by rw [hle.s b g1]; exact g5, by rw [hle.s b g1]; exact g6.mono hle, fun hro => by
    have := h.dlt b g1; have hro' : A.size + 1 ≤ b := hro; omega⟩
 ·intro b es hb
  by_cases hbn : b = A.size
  ·subst hbn; rw [AH.gNs] at hb; cases hb
  ·rw [AH.gNo hbn] at hb
   obtain ⟨g1, es', cl, g2, g3⟩ := h.maps b es hb
   exact ⟨hle.dom b g1, es', cl, by rw [hle.r b g1]; exact g2, g3.mono hle⟩
 ·exfalso
  by_cases hbn : b = A.size
  ·subst hbn; exact absurd hlo (by show ¬ A.size + 1 ≤ A.size; omega)
  ·rw [AH.gNo hbn] at hb
   have := Sim.live_lt h hb; have hlo' : A.size + 1 ≤ b := hlo; omega
 ·exfalso
  by_cases hbn : b = A.size
  ·subst hbn; exact absurd hlo (by show ¬ A.size + 1 ≤ A.size; omega)
  ·rw [AH.gNo hbn] at hb
   have := Sim.live_lt h hb; have hlo' : A.size + 1 ≤ b := hlo; omega
 ·by_cases hbn : b = A.size
  ·subst hbn
   have : r < W.heap.size := by
    rcases Nat.lt_or_ge r W.heap.size with h' | h'
    ·exact h'
    ·rw [Array.getElem?_eq_none h'] at hr; cases hr
   simpa using this
  ·rw [AH.gNo hbn] at hb
   rw [hle.r b (h.dom_of hb)]
   exact h.lo b hb (Sim.live_lt h hb)
end
structure LayT (P : Program) (t : TypeId) (α : Type) [Dat α] (isd : ∀ H : Type, DataW H → α → Prop) (sz : α → Prop) : Prop where
 cells : P.cellsOf t = Dat.w α
 lay : ∀ {H : Type} {enc : TypeId × Value → H} {held : Bool} {ng : Nat} {W : World} {m : Emb} {A : AH} (fuel : Nat) (cs : List Value) (x : DataW H × List MemPlace),
  DataW.trod enc P W 0 (fun _ => true) held fuel t cs = some x → (∀ n ∈ x.1.weights P t, n ≤ reachBytes) → SimR ng W m A →
  ∃ m' A' v cs' F, SimR ng W m' A' ∧ m.Le m' ∧ Ext A A' ∧ Dat.rep A' v cs' F ∧ VRels m' cs' cs ∧ (∀ u ∈ cs', u.oneCell' = true) ∧ isd H x.1 v ∧ sz v
theorem i64_wf {n : Int} (h : (Lit.int .i64 n).wf = true) : -9223372036854775808 ≤ n ∧ n ≤ 9223372036854775807 := by
 have h1 : IntKind.i64.min = -9223372036854775808 := by decide
 have h2 : IntKind.i64.max = 9223372036854775807 := by decide
 simpa [Lit.wf, h1, h2] using h
theorem u8_wf {n : Int} (h : (Lit.int .u8 n).wf = true) : 0 ≤ n ∧ n ≤ 255 := by
 have h1 : IntKind.u8.min = 0 := by decide
 have h2 : IntKind.u8.max = 255 := by decide
 simpa [Lit.wf, h1, h2] using h
section
variable {P : Program} {t : TypeId}
theorem LayT.int (hu : P.underlying t = some (.int .i64)) (hc : P.cellsOf t = 1) : LayT P t Int (fun _ d v => d = .lit (.int .i64 v)) (fun v => -9223372036854775808 ≤ v ∧ v ≤ 9223372036854775807) := by
 refine ⟨hc, fun {H enc held ng W m A} fuel cs x h _ hS => ?_⟩
 obtain ⟨n, rfl, rfl, hw⟩ := DataW.trod_int hu h
 exact ⟨m, A, n, _, [], hS, .refl m, Ext.refl A, ⟨rfl, rfl⟩, .cons _ _ _ _ (.int _ _) .nil, by simp [Value.oneCell'], rfl, i64_wf hw⟩
theorem LayT.bool (hu : P.underlying t = some .bool) (hc : P.cellsOf t = 1) : LayT P t Bool (fun _ d v => d = .lit (.bool v)) (fun _ => True) := by
 refine ⟨hc, fun {H enc held ng W m A} fuel cs x h _ hS => ?_⟩
 obtain ⟨n, rfl, rfl⟩ := DataW.trod_bool hu h
 exact ⟨m, A, n, _, [], hS, .refl m, Ext.refl A, ⟨rfl, rfl⟩, .cons _ _ _ _ (.bool _) .nil, by simp [Value.oneCell'], rfl, trivial⟩
theorem LayT.str (hu : P.underlying t = some .string) (hc : P.cellsOf t = 1) : LayT P t ByteArray (fun _ d v => d = .lit (.string v.data.toList)) (fun v => v.size ≤ reachBytes) := by
 refine ⟨hc, fun {H enc held ng W m A} fuel cs x h hw hS => ?_⟩
 obtain ⟨s, rfl, rfl, _⟩ := DataW.trod_string hu h
 have hsz : s.size ≤ reachBytes := by simpa [DataW.weights] using hw
 exact ⟨m, A, s, _, [], hS, .refl m, Ext.refl A, ⟨rfl, rfl, by have := reachBytes_lt; unfold BIG; omega⟩, .cons _ _ _ _ (.string _) .nil, by simp [Value.oneCell'], rfl, hsz⟩
theorem LayT.u8 (hu : P.underlying t = some (.int .u8)) (hc : P.cellsOf t = 1) : LayT P t UInt8 (fun _ d v => d = .lit (.int .u8 v.toNat)) (fun _ => True) := by
 refine ⟨hc, fun {H enc held ng W m A} fuel cs x h _ hS => ?_⟩
 obtain ⟨n, rfl, rfl, hw⟩ := DataW.trod_int hu h
 have hb : 0 ≤ n ∧ n ≤ 255 := u8_wf hw
 have hn : ((UInt8.ofNat n.toNat).toNat : Int) = n := by
  have : (UInt8.ofNat n.toNat).toNat = n.toNat % 256 := by simp
  rw [this]; omega
 exact ⟨m, A, UInt8.ofNat n.toNat, [.int .u8 n], [], hS, .refl m, Ext.refl A, ⟨by rw [hn], rfl⟩, .cons _ _ _ _ (.int _ _) .nil, by simp [Value.oneCell'], by rw [hn], trivial⟩
def AllD {H α : Type} (isd : DataW H → α → Prop) : List (DataW H) → List α → Prop
 | [], [] => True
 | d :: ds, v :: vs => isd d v ∧ AllD isd ds vs
 | _, _ => False
theorem AllD.take {H α : Type} {isd : DataW H → α → Prop} : ∀ {ds es : List (DataW H)} {vs : List α}, AllD isd (ds ++ es) vs → AllD isd ds (vs.take ds.length)
 | [], _, _, _ => by simp [AllD]
 | d :: ds, es, v :: vs, h => ⟨h.1, AllD.take h.2⟩
theorem addr_add (a : Addr) (x y : Nat) : (a.add x).add y = a.add (x + y) := by
 unfold Addr.add
 by_cases hx : x = 0
 ·subst hx; simp
 ·by_cases hy : y = 0
  ·subst hy; simp [hx]
  ·simp [hx, hy, Nat.add_assoc]
theorem Reps.take {α : Type} [Dat α] {A : AH} {l : List α} {cs : List Value} {F : List Nat} (h : Reps A l cs F) : ∀ k, k ≤ l.length → ∃ F', Reps A (l.take k) (cs.take (k * Dat.w α)) F' ∧ ∀ b, b ∈ F' → b ∈ F := by
 induction h with
 | nil => intro k hk; simp at hk; subst hk; exact ⟨[], by simpa using Reps.nil, by simp⟩
 | cons h k ih =>
   rename_i x l c cs F G
   intro i hi
   cases i with
   | zero => exact ⟨[], by simpa using Reps.nil, by simp⟩
   | succ i =>
     obtain ⟨F', h1, h2⟩ := ih i (by simpa using hi)
     refine ⟨F ++ F', ?_, fun b hb => ?_⟩
     ·have hc := Dat.len h
      rw [List.take_succ_cons, List.take_append, List.take_of_length_le (l := c) (by rw [hc, Nat.succ_mul]; omega), hc, show (i + 1) * Dat.w α - Dat.w α = i * Dat.w α by rw [Nat.succ_mul]; omega]
      exact .cons h h1
     ·rcases List.mem_append.1 hb with hb | hb
      ·exact List.mem_append_left _ hb
      ·exact List.mem_append_right _ (h2 b hb)
theorem weights_all {H : Type} {P : Program} {e : TypeId} : ∀ {ds : List (DataW H)} {d : DataW H}, d ∈ ds → ∀ n ∈ d.weights P e, n ∈ DataW.weightsAll P e ds
 | d0 :: ds, d, hd, n, hn => by
   rw [DataW.weightsAll, List.mem_append]
   rcases List.mem_cons.1 hd with rfl | hd
   ·exact .inl hn
   ·exact .inr (weights_all hd n hn)
theorem VRels.app {m : Emb} : ∀ {a a' b b' : List Value}, VRels m a a' → VRels m b b' → VRels m (a ++ b) (a' ++ b')
 | _, _, _, _, .nil, k => k
 | _, _, _, _, .cons v v' l l' h r, k => .cons v v' _ _ h (r.app k)
theorem LayT.list {α : Type} [Dat α] {e : TypeId} {isd : ∀ H : Type, DataW H → α → Prop} {sz : α → Prop} (he : LayT P e α isd sz) {H : Type} {enc : TypeId × Value → H} {held : Bool} {ng : Nat} {W : World} {a : Addr} {n : Nat} :
 ∀ (ys : List (DataW H × List MemPlace)) (i0 : Nat) (m : Emb) (A : AH), (∀ i, i < ys.length → (W.cells? 0 (a.add ((i0 + i) * Dat.w α)) (Dat.w α)).bind (DataW.trod enc P W 0 (fun _ => true) held n e) = ys[i]?) →
   (∀ k ∈ DataW.weightsAll P e (ys.map (·.1)), k ≤ reachBytes) → SimR ng W m A →
   ∃ m' A' vs cs' ccs F, SimR ng W m' A' ∧ m.Le m' ∧ Ext A A' ∧ Reps A' vs cs' F ∧ VRels m' cs' ccs ∧ (∀ u ∈ cs', u.oneCell' = true) ∧ vs.length = ys.length ∧ AllD (isd H) (ys.map (·.1)) vs ∧ (∀ v ∈ vs, sz v) ∧
     ccs.length = ys.length * Dat.w α ∧ ∀ j, j < ccs.length → W.cell? (a.add (i0 * Dat.w α + j)) = ccs[j]? := by
 intro ys
 induction ys with
 | nil => intro i0 m A _ _ hS; exact ⟨m, A, [], [], [], [], hS, .refl m, Ext.refl A, .nil, .nil, by simp, rfl, trivial, by simp, by simp, by simp⟩
 | cons y ys ih =>
   intro i0 m A hel hw hS
   have h0 := hel 0 (by simp)
   simp only [Nat.add_zero, List.getElem?_cons_zero] at h0
   rw [Option.bind_eq_some_iff] at h0
   obtain ⟨c0, hc0, ht0⟩ := h0
   obtain ⟨_, hcl, hcc⟩ := World.cells?_some hc0
   obtain ⟨m1, A1, v, cs1, F1, g1, g2, g3, g4, g5, g6, g7, g8⟩ := he.lay n c0 y ht0 (fun k hk => hw k (by rw [List.map_cons]; exact weights_all (List.mem_cons_self ..) k hk)) hS
   obtain ⟨m2, A2, vs, cs2, ccs, F2, k1, k2, k3, k4, k5, k6, k7, k8, k9, k10, k11⟩ := ih (i0 + 1) m1 A1 (fun i hi => by
    have := hel (i + 1) (by simpa using hi)
    rw [show i0 + (i + 1) = i0 + 1 + i by omega] at this
    simpa using this) (fun k hk => hw k (by rw [List.map_cons, DataW.weightsAll]; exact List.mem_append_right _ hk)) g1
   refine ⟨m2, A2, v :: vs, cs1 ++ cs2, c0 ++ ccs, F1 ++ F2, k1, g2.trans k2, g3.trans k3, .cons (Dat.frame g4 fun b hb => ⟨k3.get b (Dat.bound g4 b hb), Nat.lt_of_lt_of_le (Dat.bound g4 b hb) k3.size⟩) k4, (g5.mono k2).app k5,
    fun u hu => ?_, by simp [k7], ⟨g7, k8⟩, fun u hu => ?_, by rw [List.length_append, hcl, k10, List.length_cons, Nat.succ_mul]; omega, fun j hj => ?_⟩
   ·rcases List.mem_append.1 hu with hu | hu
    ·exact g6 u hu
    ·exact k6 u hu
   ·rcases List.mem_cons.1 hu with rfl | hu
    ·exact g8
    ·exact k9 u hu
   ·rw [List.getElem?_append]
    split
    ·rename_i hlt
     rw [← hcc j (by omega), addr_add]
    ·rename_i hge
     rw [List.length_append] at hj
     rw [← k11 (j - c0.length) (by omega), hcl]
     congr 2
     rw [Nat.succ_mul]
     omega
theorem LayT.slice {α : Type} [Dat α] {e : TypeId} {isd : ∀ H : Type, DataW H → α → Prop} {sz : α → Prop} (he : LayT P e α isd sz) (hu : P.underlying t = some (.slice e)) (hc : P.cellsOf t = 1) (hb : 0 < P.bytesOf e) (hw : 0 < Dat.w α ∧ Dat.w α < 1099511627776) :
 LayT P t (List α) (fun H d l => (d = .nil ∧ l = []) ∨ ∃ es sp, d = .slice es sp ∧ AllD (isd H) es l) (fun l => l.length ≤ reachBytes ∧ ∀ v ∈ l, sz v) := by
 refine ⟨hc, fun {H enc held ng W m A} fuel cs x h hwt hS => ?_⟩
 rcases DataW.trod_slice hu h with ⟨rfl, rfl⟩ | ⟨a, len, cap, elems, rest, n, _, rfl, rfl, _, hl, hm, hlen, hel, hsp, _⟩
 ·exact ⟨m, A, [], _, [], hS, .refl m, Ext.refl A, ⟨Sl.nil, rfl, .nil rfl rfl rfl⟩, .cons _ _ _ _ .slNil .nil, by simp [Value.oneCell', Sl.v], .inl ⟨rfl, rfl⟩, by simp, by simp⟩
 ·obtain ⟨hrl, hrest⟩ := hsp rfl
  have hrb := reachBytes_lt
  simp only [DataW.weights, hu] at hwt
  have hcap : cap ≤ reachBytes := by
   have := hwt _ (List.mem_cons_self ..)
   rw [List.length_map, List.length_map] at this
   have h1 : (elems.length + rest.length) * 1 ≤ (elems.length + rest.length) * P.bytesOf e := Nat.mul_le_mul_left _ hb
   omega
  have hall : (elems ++ rest).length = cap := by rw [List.length_append]; omega
  obtain ⟨m1, A1, vs, cs1, ccs, F, k1, k2, k3, k4, k5, k6, k7, k8, k9, k10, k11⟩ := he.list (enc := enc) (held := held) (ng := ng) (W := W) (a := a) (n := n) (elems ++ rest) 0 m A (fun i hi => by
   rw [Nat.zero_add, ← he.cells]
   rw [List.getElem?_append]
   split
   ·exact hel i (by omega)
   ·rename_i hge
    have := hrest (i - elems.length) (by omega)
    rw [show len + (i - elems.length) = i by omega] at this
    exact this) (fun k hk => hwt k (by
   rw [List.map_append] at hk
   refine List.mem_cons_of_mem _ ?_
   have : ∀ (l1 l2 : List (DataW H)), DataW.weightsAll P e (l1 ++ l2) = DataW.weightsAll P e l1 ++ DataW.weightsAll P e l2 := by
    intro l1 l2
    induction l1 with
    | nil => simp [DataW.weightsAll]
    | cons x l ih => rw [List.cons_append, DataW.weightsAll, DataW.weightsAll, ih, List.append_assoc]
   rw [this] at hk
   exact hk)) hS
  have hd : AllD (isd H) (elems.map (·.1)) (vs.take len) := by
   rw [List.map_append] at k8
   have := k8.take
   rwa [List.length_map, hlen] at this
  by_cases hz : cap = 0
  ·have hl0 : len = 0 := by omega
   subst hz; subst hl0
   refine ⟨m1, A1, [], [(Sl.mk false 0 0 0 0).v], [], k1, k2, k3, ⟨_, rfl, .empty rfl rfl (by unfold BIG; show 0 < _; omega) rfl rfl⟩, .cons _ _ _ _ (.slEmpty _ _ 0 (.inl rfl) (fun h => by unfold BIG at h; omega)) .nil,
    by simp [Value.oneCell', Sl.v], .inr ⟨_, _, rfl, by simpa using hd⟩, by simp, by simp⟩
  ·have hpos : 0 < ccs.length := by rw [k10, hall]; exact Nat.mul_pos (by omega) hw.1
   have hlc : cs1.length = ccs.length := k5.length
   have hrow : ∃ c' el fz, W.heap[a.block]? = some (.cells c' el fz) ∧ a.spot = none ∧ ∀ j, j < ccs.length → c'[a.off + j]? = ccs[j]? := by
    have h0 := k11 0 hpos
    simp only [Nat.zero_mul, Nat.zero_add] at h0
    have ha0 : a.add 0 = a := rfl
    rw [ha0, World.cell?] at h0
    have hs : ccs[0]? = some ccs[0] := by simp [hpos]
    rw [hs] at h0
    split at h0
    ·rename_i c' el fz hh
     split at h0
     ·cases h0
     ·rename_i hspot
      refine ⟨c', el, fz, hh, by simpa using hspot, fun j hj => ?_⟩
      have := k11 j hj
      rw [Nat.zero_mul, Nat.zero_add, World.cell?] at this
      have hab : (a.add j).block = a.block := by unfold Addr.add; split <;> rfl
      have hao : (a.add j).off = a.off + j := by unfold Addr.add; split <;> simp_all
      have has : (a.add j).spot.isSome = false := by unfold Addr.add; split <;> simp_all
      rw [hab, hh, hao] at this
      simpa [has] using this
    ·cases h0
   obtain ⟨c', el, fz, hh, hspot, hcells⟩ := hrow
   have hbound : a.off + cs1.length ≤ c'.size := by
    rw [hlc]
    have := hcells (ccs.length - 1) (by omega)
    have hs : ccs[ccs.length - 1]? = some ccs[ccs.length - 1] := by simp
    rw [hs] at this
    rcases Nat.lt_or_ge (a.off + (ccs.length - 1)) c'.size with h' | h'
    ·omega
    ·rw [Array.getElem?_eq_none h'] at this; cases this
   obtain ⟨q1, q2⟩ := k1.add (r := a.block) (s := a.off) (e := Dat.w α) (c := cs1) hh hbound (fun i v hv => by
    obtain ⟨v', hv', hr⟩ := k5.get hv
    refine ⟨k6 v (List.mem_of_getElem? hv), v', ?_, hr⟩
    rw [hcells i (by rw [← hlc]; rcases Nat.lt_or_ge i cs1.length with h' | h'; exact h'; rw [List.getElem?_eq_none h'] at hv; cases hv)]
    exact hv') hw.2
   obtain ⟨F', t1, t2⟩ := k4.take len (by omega)
   refine ⟨_, A1.new (.cells cs1 (Dat.w α)), vs.take len, [(Sl.mk false A1.size 0 len cap).v], A1.size :: F', q1, k2.trans q2, k3.trans (Ext.new _ _), ⟨_, rfl, .inB ⟨rfl, by simp [AH.new], by simp <;> omega, .inr ⟨hl, by unfold BIG; show cap < _; omega⟩,
    cs1, _, F', AH.gNs _ _, ?_, rfl, ?_, rfl⟩⟩, ?_, by simp [Value.oneCell', Sl.v], .inr ⟨_, _, rfl, hd⟩, by simp <;> omega, fun v hv => k9 v (List.mem_of_mem_take hv)⟩
   ·show 0 + len * Dat.w α ≤ cs1.length
    rw [hlc, k10, hall, Nat.zero_add]; exact Nat.mul_le_mul_right _ hl
   ·rw [List.drop_zero]
    exact t1.frame fun b hb => ⟨AH.gNo (by have := k4.bound b (t2 b hb); omega), by have := k4.bound b (t2 b hb); show b < A1.size + 1; omega⟩
   ·refine .cons _ _ _ _ ?_ .nil
    have := VRel.slExact (m := m1.add A1.size a.block a.off c'.size (Dat.w α)) A1.size 0 len cap Emb.add_dom (by unfold BIG; omega) hl
    obtain ⟨ab, ao, as⟩ := a
    subst hspot
    simpa [Sl.v] using this
end
end Go.AM
namespace Go.AM
open Go Go.RowKit
set_option linter.all false
section
variable {P : Program} {t : TypeId}
structure LayF (P : Program) (fl : List Field) (o : Nat) (α : Type) [Dat α] (isd : ∀ H : Type, List (DataW H) → α → Prop) (sz : α → Prop) : Prop where
 lay : ∀ {H : Type} {enc : TypeId × Value → H} {held : Bool} {ng : Nat} {W : World} {m : Emb} {A : AH} (n : Nat) (cs : List Value) (xs : List (DataW H × List MemPlace)),
  (∀ (i : Nat) (f : Field), fl[i]? = some f → DataW.trod enc P W 0 (fun _ => true) held n f.type ((cs.drop f.offset).take (P.cellsOf f.type)) = xs[i]?) → xs.length = fl.length →
  (∀ k ∈ DataW.weightsEach P (fl.map (·.type)) (xs.map (·.1)), k ≤ reachBytes) → SimR ng W m A →
  ∃ m' A' v cs' F, SimR ng W m' A' ∧ m.Le m' ∧ Ext A A' ∧ Dat.rep A' v cs' F ∧ VRels m' cs' ((cs.drop o).take (Dat.w α)) ∧ (∀ u ∈ cs', u.oneCell' = true) ∧ isd H (xs.map (·.1)) v ∧ sz v
theorem LayF.one {α : Type} [Dat α] {isd : ∀ H : Type, DataW H → α → Prop} {sz : α → Prop} {f : Field} (h : LayT P f.type α isd sz) : LayF P [f] f.offset α (fun H ds v => ∃ d, ds = [d] ∧ isd H d v) sz := by
 refine ⟨fun {H enc held ng W m A} n cs xs hx hl hw hS => ?_⟩
 match xs, hl with
 | [x], _ =>
   have h0 := hx 0 f rfl
   simp only [List.getElem?_cons_zero] at h0
   obtain ⟨m', A', v, cs', F, g1, g2, g3, g4, g5, g6, g7, g8⟩ := h.lay n _ x h0 (fun k hk => hw k (by simp [DataW.weightsEach, hk])) hS
   rw [h.cells] at g5
   exact ⟨m', A', v, cs', F, g1, g2, g3, g4, g5, g6, ⟨_, rfl, g7⟩, g8⟩
theorem LayF.cons {α β : Type} [Dat α] [Dat β] {isd : ∀ H : Type, DataW H → α → Prop} {sz : α → Prop} {isd2 : ∀ H : Type, List (DataW H) → β → Prop} {sz2 : β → Prop} {f : Field} {fl : List Field} (h : LayT P f.type α isd sz)
 (k : LayF P fl (f.offset + Dat.w α) β isd2 sz2) : LayF P (f :: fl) f.offset (α × β) (fun H ds v => ∃ d r, ds = d :: r ∧ isd H d v.1 ∧ isd2 H r v.2) (fun v => sz v.1 ∧ sz2 v.2) := by
 refine ⟨fun {H enc held ng W m A} n cs xs hx hl hw hS => ?_⟩
 match xs, hl with
 | x :: xs, hl =>
   have h0 := hx 0 f rfl
   simp only [List.getElem?_cons_zero] at h0
   simp only [List.map_cons, DataW.weightsEach] at hw
   obtain ⟨m1, A1, v, cs1, F1, g1, g2, g3, g4, g5, g6, g7, g8⟩ := h.lay n _ x h0 (fun k hk => hw k (List.mem_append_left _ hk)) hS
   obtain ⟨m2, A2, u, cs2, F2, k1, k2, k3, k4, k5, k6, k7, k8⟩ := k.lay n cs xs (fun i f' hf => hx (i + 1) f' hf) (by simpa using hl) (fun q hq => hw q (List.mem_append_right _ hq)) g1
   rw [h.cells] at g5
   refine ⟨m2, A2, (v, u), cs1 ++ cs2, F1 ++ F2, k1, g2.trans k2, g3.trans k3, ⟨cs1, cs2, F1, F2, rfl, rfl, Dat.frame g4 fun b hb => ⟨k3.get b (Dat.bound g4 b hb), Nat.lt_of_lt_of_le (Dat.bound g4 b hb) k3.size⟩, k4⟩, ?_, fun z hz => ?_, ⟨_, _, rfl, g7, k7⟩, g8, k8⟩
   ·have hs : (cs.drop f.offset).take (Dat.w (α × β)) = (cs.drop f.offset).take (Dat.w α) ++ (cs.drop (f.offset + Dat.w α)).take (Dat.w β) := by
     show (cs.drop f.offset).take (Dat.w α + Dat.w β) = _
     rw [List.take_add, List.drop_drop]
    rw [hs]
    exact (g5.mono k2).app k5
   ·rcases List.mem_append.1 hz with hz | hz
    ·exact g6 z hz
    ·exact k6 z hz
theorem LayT.struct {α : Type} [Dat α] {isd : ∀ H : Type, List (DataW H) → α → Prop} {sz : α → Prop} {fs : Array Field} (hu : P.underlying t = some (.struct fs)) (hc : P.cellsOf t = Dat.w α) (h : LayF P fs.toList 0 α isd sz) :
 LayT P t α (fun H d v => ∃ ds, d = .agg ds ∧ isd H ds v) sz := by
 refine ⟨hc, fun {H enc held ng W m A} fuel cs x hx hw hS => ?_⟩
 obtain ⟨xs, n, _, rfl, hcl, hxl, hf⟩ := DataW.trod_struct hu hx
 simp only [DataW.weights, hu] at hw
 obtain ⟨m', A', v, cs', F, g1, g2, g3, g4, g5, g6, g7, g8⟩ := h.lay n cs xs (fun i f hi => hf i f (by simpa using hi)) (by simpa using hxl) hw hS
 rw [List.drop_zero, List.take_of_length_le (by omega)] at g5
 exact ⟨m', A', v, cs', F, g1, g2, g3, g4, g5, g6, ⟨_, rfl, g7⟩, g8⟩
end
end Go.AM
namespace Go.AM
open Go Go.RowKit
set_option linter.unusedVariables false
section
variable {H : Type} {enc : TypeId × Value → H} {P : Program}
theorem args_stay (hl : laidOutB P = true) {W W' : World} (hb : Below W.heap.size W W') : ∀ {ts : List TypeId} {vs : List Value} {ds : List (DataW H)} {ps : List MemPlace}, (ts.all fun t => P.readableRec t && decide (t < P.types.size)) = true →
 DataW.TrodAll enc P W 0 (fun _ => true) true ts vs ds ps → DataW.TrodAll enc P W' 0 (fun b => decide (b < W.heap.size)) true ts vs ds ps
 | [], [], [], _, _, h => h
 | t :: ts, v :: vs, d :: ds, ps, hr, h => by
   have hlt := h.lt
   obtain ⟨p, q, h1, h2, e⟩ := h
   simp only [List.all_cons, Bool.and_eq_true, decide_eq_true_eq] at hr
   exact ⟨p, q, Below.trod hl hr.1.1 hr.1.2 h1 hb (fun x hx => hlt x (by rw [e]; simp [hx])), args_stay hl hb (by simpa using hr.2) h2, e⟩
 | [], [], _ :: _, _, _, h => h.elim
 | [], _ :: _, _, _, _, h => by cases ‹List (DataW H)› <;> exact h.elim
 | _ :: _, [], _, _, _, h => by cases ‹List (DataW H)› <;> exact h.elim
 | _ :: _, _ :: _, [], _, _, h => h.elim
end
def XSound (P : Program) (X : Nat → FuncId → List Value → AH → ARes → AH → Prop) : Prop :=
 ∀ (ro base : Nat) (w0 : World) f args A r A', X ro f args A r A' → CallSound P P.globals.size ro base w0 f args A r A' ∧ A.size ≤ A'.size
theorem law_calls {P : Program} {X : Nat → FuncId → List Value → AH → ARes → AH → Prop} {f : FuncId} {fn : Func} {c : Code} (hf : P.funcs[f]? = some fn) (hb : fn.body = some c) (hnm : (fn.name == "runtime.NumGoroutine") = false)
 (hm : P.follows .mixedOrders = true) (hX : XSound P X) {W : World} {m : Emb} {A : AH} {avs : List Value} {args : List Value} (hS : SimR P.globals.size W m A) (hv : VRels m avs args)
 (h : ACalls P A.size (X A.size) f avs A (fun r _ => r = .ret (.bool true))) : Calls P f args.toArray W (fun e W' => e = .returned (.bool true) ∧ Below W.heap.size W W') := by
 obtain ⟨r, A', hbig, rfl⟩ := h
 have hs := (Big.sound (P := P) (ng := P.globals.size) (ro := A.size) (base := W.heap.size) (w0 := W) rfl hm (fun f args A r A' hx => hX _ _ _ f args A r A' hx) hbig).1
 have hs' : CallSound P P.globals.size A.size W.heap.size W f avs A (.ret (.bool true)) A' := hs
 rcases hs' m W args hS hv with ⟨_, h2⟩ | ⟨v', w', h2, _⟩
 ·refine h2.mono fun e w' he => ?_
  cases e with
  | returned v' =>
    obtain ⟨m', h3, h4⟩ := he
    cases h4
    exact ⟨rfl, h3.sim.old⟩
  | panicked ch => exact he.elim
  | outgrown => exact he.elim
 ·exfalso
  have : (callFunc f args.toArray).run P W = .ok (.enter f args.toArray) W := by
   simp [callFunc, hf, hb]
   exact fun e => by rw [e] at hnm; simp at hnm
  rw [this] at h2
  cases h2
end Go.AM
