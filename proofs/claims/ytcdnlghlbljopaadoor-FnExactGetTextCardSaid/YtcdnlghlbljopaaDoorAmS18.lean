/- Soundness of the abstract machine, eighteenth part: a region that draws its order, the whole. -/
import Derived.Test.YtcdnlghlbljopaaDoorAmS17
namespace Go.AM
open Go Go.RowKit
set_option linter.unusedVariables false
section
variable {P : Program} {ng ro base : Nat} {w0 : World}
theorem Below.drawn {w : World} (h : Below base w0 w) : Below base w0 { w with drawn := w.drawn + 1 } := by
  exact ⟨h.os, h.tape, h.output, h.size, h.block⟩
/-- A course's start: the heap's numbers reach as far as the course's end; an order has been drawn. -/
theorem Sim.begin {m : Emb} {A : AH} {w : World} (h : Sim ng ro base w0 m A w) {n : Nat} (hn : A.size ≤ n) :
    Step ng ro base w0 m A w m ⟨A.get, n⟩ { w with drawn := w.drawn + 1 } := by
  refine ⟨.refl m, ⟨h.glob, fun b hb => Nat.lt_of_lt_of_le (h.dlt b hb) hn, h.cells, h.maps, h.rw, h.inj, h.lo, h.bl, Nat.le_trans h.rl hn, Below.drawn h.old⟩, hn, Nat.le_refl _, fun _ _ _ => rfl, fun b hb => .inl ⟨b, hb, rfl⟩⟩
theorem count_set {l : Array Bool} {i : Nat} (h : l.getD i true = false) : (l.setIfInBounds i true).toList.count false + 1 = l.toList.count false := by
  have hlt : i < l.size := by
    rcases Nat.lt_or_ge i l.size with h' | h'
    · exact h'
    · rw [Array.getD_eq_getD_getElem?, Array.getElem?_eq_none h'] at h; simp at h
  have hv : l[i] = false := by simpa [Array.getD_eq_getD_getElem?, hlt] using h
  have hl : l.toList[i]'(by simpa using hlt) = false := by simpa using hv
  rw [Array.toList_setIfInBounds, List.count_set (by simpa using hlt)]
  have hpos : 0 < l.toList.count false := List.count_pos_iff.2 (by rw [← hl]; exact List.getElem_mem _)
  have e : ((true : Bool) == false) = false := rfl
  simp only [hl, e, beq_self_eq_true, if_true, Bool.false_eq_true, if_false]
  omega
variable {ops : Array Oper} {S : Nat → Prop} {es : Nat → Env} {As : Nat → AH} {L : Nat}
variable {m1 : Emb} {w1 : World} {a1 : Act} {D : Nat → Prop} {p : Nat} {m : Emb} {H : AH} {a : Act} {w : World}
/-- The last operation of a course that ends in a panic comes up. -/
theorem Inv.pan (hk : drawOk ops = true) (hc : Course P ng ro base w0 ops S es As 0 L) (hok : ∀ o ∈ ops.toList, dstOk a1.tmps.size ng o = true) (hgl : ∀ g, g < ng → g < (As 0).size) (h01 : ∀ b, m1.dom b → b < (As 0).size)
    (hcanon : ∀ k, k ≤ L → ∃ mk wk ak, Sim ng ro base w0 mk (As k) wk ∧ EnvRel mk (es k) (Act.tmps ak) ∧ ak.tmps.size = a1.tmps.size)
    (I : Inv P ng ro base w0 ops es As L m1 w1 a1 D p m H a w) (h : MayCome ops D L) {o : Oper} (ho : ops[L]? = some o) (hn : isEff o.op = true) (hwy : aWanted ops o (es L) = true) {v : Value} {A' : AH}
    (hop : OpPan P ng ro base w0 o (es L) (As L) v A') {e' : Env} {Q : Exit → Act → World → Prop} (hQ : Ends ng ro base w0 m1 (As 0) w1 a1 A' e' Q (.pan v)) {K : Act → World → Prop} : wpOp P ops Q L K a w := by
  have hw := I.wanted hk h (Nat.le_refl _) ho
  obtain ⟨hpi, hch⟩ := I.chain hk h ho hn
  have hq : ∀ x ox, p ≤ x → x < L → ops[x]? = some ox → isEff ox.op = false ∧ (isNew ox.op = true → D x) := by
    intro x ox h1 h2 hox
    refine ⟨?_, fun hnw => hch x ox h2 hox (.inr hnw)⟩
    cases hex : isEff ox.op with
    | false => rfl
    | true => have := I.effD x ox hox hex (hch x ox h2 hox (.inl hex)); omega
  obtain ⟨mc, wc, ac, c1, c2, c3⟩ := hcanon L (Nat.le_refl _)
  obtain ⟨hS, hst0⟩ := I.cut hk hc hok hgl h01 hpi (Nat.le_refl _) hq c1
  have ho2 := hok o (by have := Array.mem_of_getElem? ho; simpa using this)
  have hevc := AM.evals c1 c2 (o := o) (n := ac.tmps.size) (by rw [c3]; exact ho2)
  have hev := I.evals hk h (Nat.le_refl _) ho hok
  unfold wpOp
  simp only [ho, hw, hwy, if_true]
  left
  refine hop (m.cut (As L).size) w a hS (fun x hx => VRel.cut c1.dlt (hev x hx) (hevc x hx)) K Q fun m2 w' v' hst hv' => ?_
  exact hQ m2 a w' (hst0.trans hst) I.tsz I.dfr v' hv'
/-- All numbers have come up. -/
theorem Inv.done (hk : drawOk ops = true) (hc : Course P ng ro base w0 ops S es As 0 L) (hok : ∀ o ∈ ops.toList, dstOk a1.tmps.size ng o = true) (hgl : ∀ g, g < ng → g < (As 0).size) (h01 : ∀ b, m1.dom b → b < (As 0).size)
    (hcanon : ∀ k, k ≤ L → ∃ mk wk ak, Sim ng ro base w0 mk (As k) wk ∧ EnvRel mk (es k) (Act.tmps ak) ∧ ak.tmps.size = a1.tmps.size)
    (I : Inv P ng ro base w0 ops es As L m1 w1 a1 D p m H a w) (hL : L = ops.size) (hD : ∀ i, i < L → D i) {Q : Exit → Act → World → Prop} (hQ : Ends ng ro base w0 m1 (As 0) w1 a1 (As L) (es L) Q .normal) : Q .normal a w := by
  obtain ⟨mc, wc, ac, c1, c2, c3⟩ := hcanon L (Nat.le_refl _)
  obtain ⟨hS, hst0⟩ := I.cut hk hc hok hgl h01 I.pL (Nat.le_refl _) (fun x ox h1 h2 hox => by
    refine ⟨?_, fun _ => hD x h2⟩
    cases hex : isEff ox.op with
    | false => rfl
    | true => have := I.effD x ox hox hex (hD x h2); omega) c1
  refine hQ _ a w hst0 I.tsz I.dfr fun t => ?_
  refine VRel.cut c1.dlt (I.tmps t L (Nat.le_refl _) (fun i o hi _ _ => hD i hi) (fun i o hi ho _ => ?_)) (c2 t)
  rw [Array.getElem?_eq_none (by omega)] at ho
  cases ho
theorem drawn_sound (hm : P.follows .mixedOrders = true) (hk : drawOk ops = true) {id : Nat} {e e' : Env} {A A' : AH} {x : AExit} (ht : Tr P ng ro base w0 ops S (List.range ops.size) e A x e' A') :
    CodeSound P ng ro base w0 (.region id ops true) e A x e' A' := by
  intro m1 w1 a1 Q hS hE hds hQ
  have hok : ∀ o ∈ ops.toList, dstOk a1.tmps.size ng o = true := by
    unfold dstsOk at hds
    exact List.all_eq_true.1 hds
  rw [List.range_eq_range'] at ht
  obtain ⟨es, As, L, he0, hA0, _, hc, hend⟩ := ht.course
  subst he0; subst hA0
  have hLn : L ≤ ops.size := by
    rcases hend with ⟨h, _⟩ | ⟨h, _⟩ <;> omega
  have hgl : ∀ g, g < ng → g < (As 0).size := fun g hg => hS.dlt g (hS.glob g hg).1
  have hcanon := hc.canon hLn hS hE hok
  have hwf : ∀ k, k ≤ L → Wf (As k) := fun k hkL => by obtain ⟨_, _, _, h, _⟩ := hcanon k hkL; exact h.wf
  have hm0 := hc.mono 0 L (Nat.zero_le _) (Nat.le_refl _)
  apply wp_region_any hm
  have main : ∀ (fuel : Nat) (listed : Array Bool) (p : Nat) (m : Emb) (H : AH) (a : Act) (w : World), listed.size = ops.size → listed.toList.count false = fuel →
      Inv P ng ro base w0 ops es As L m1 w1 a1 (fun i => listed.getD i false = true) p m H a w → wpAny P .any ops Q fuel listed a w := by
    intro fuel
    have none : ∀ (listed : Array Bool) (p : Nat) (m : Emb) (H : AH) (a : Act) (w : World), listed.size = ops.size → Inv P ng ro base w0 ops es As L m1 w1 a1 (fun i => listed.getD i false = true) p m H a w →
        Region.ready .any ops listed = [] → Q .normal a w := by
      intro listed p m H a w hsz I hr
      have hall : ∀ i, i < ops.size → listed.getD i false = true := by
        intro i
        induction i using Nat.strongRecOn with
        | _ i ih =>
          intro hi
          cases hb : listed.getD i false with
          | true => rfl
          | false =>
            exfalso
            have : i ∈ Region.ready .any ops listed := by
              refine mem_ready.2 ⟨?_, ops[i], by simp [hi], fun ed hed hbd => ?_⟩
              · have hil : i < listed.size := by omega
                simp only [Array.getD_eq_getD_getElem?, Array.getElem?_eq_getElem hil, Option.getD_some] at hb ⊢
                exact hb
              · have hk' := hk
                unfold drawOk at hk'
                have := List.all_eq_true.1 hk' i (List.mem_range.2 hi)
                simp only [Array.getElem?_eq_getElem hi, Bool.and_eq_true] at this
                have := List.all_eq_true.1 this.1 ed (by simpa using hed)
                have hlt : ed.on < i := by simpa [hbd] using this
                exact ih ed.on hlt (by omega)
            rw [hr] at this
            cases this
      rcases hend with ⟨h1, h2, h3, h4⟩ | ⟨h1, _⟩
      · subst h2; subst h3; subst h4
        exact I.done hk hc hok hgl hS.dlt hcanon (by omega) (fun i hi => hall i (by omega)) hQ
      · have := I.inL L (hall L (by omega))
        omega
    induction fuel with
    | zero =>
      intro listed p m H a w hsz hcnt I
      have hr : Region.ready .any ops listed = [] := by
        cases hr : Region.ready .any ops listed with
        | nil => rfl
        | cons i l =>
          have hi : i ∈ Region.ready .any ops listed := by rw [hr]; simp
          have := count_set (mem_ready.1 hi).1
          omega
      exact ⟨hr, none listed p m H a w hsz I hr⟩
    | succ fuel ih =>
      intro listed p m H a w hsz hcnt I
      refine ⟨none listed p m H a w hsz I, fun i hi => ?_⟩
      obtain ⟨h0, o, ho, hw⟩ := mem_ready.1 hi
      have hlt : i < ops.size := by
        rcases Nat.lt_or_ge i ops.size with h' | h'
        · exact h'
        · rw [Array.getElem?_eq_none h'] at ho; cases ho
      have hil : i < listed.size := by omega
      have hmc : MayCome ops (fun i => listed.getD i false = true) i := by
        refine ⟨?_, o, ho, hw⟩
        simp only [Array.getD_eq_getD_getElem?, Array.getElem?_eq_getElem hil, Option.getD_some] at h0 ⊢
        rw [h0]; simp
      have hDeq : (fun x => (listed.setIfInBounds i true).getD x false = true) = (fun x => listed.getD x false = true ∨ x = i) := by
        funext x
        apply propext
        by_cases hx : i = x
        · subst hx; simp [hil]
        · rw [getD_set_ne false hx]
          constructor
          · exact .inl
          · rintro (h | h)
            · exact h
            · exact absurd h.symm hx
      have hK : ∀ p' m' H' a' w', Inv P ng ro base w0 ops es As L m1 w1 a1 (fun x => listed.getD x false = true ∨ x = i) p' m' H' a' w' → wpAny P .any ops Q fuel (listed.setIfInBounds i true) a' w' := by
        intro p' m' H' a' w' I'
        refine ih _ p' m' H' a' w' (by simpa using hsz) (by have := count_set h0; omega) ?_
        rw [hDeq]
        exact I'
      rcases Nat.lt_trichotomy i L with hiL | hiL | hiL
      · cases hn : isEff o.op with
        | false => exact I.quiet hk hc hwf hS.rl hok hmc hiL ho hn (fun m' H' a' w' I' => hK _ m' H' a' w' I')
        | true => exact I.eff hk hc hok hgl hS.dlt hS.rl hcanon hmc hiL ho hn (fun m' H' a' w' I' => hK _ m' H' a' w' I')
      · subst hiL
        rcases hend with ⟨h1, _⟩ | ⟨_, o', v, rfl, ho', hwy, hn, hop, _⟩
        · omega
        · rw [ho] at ho'; cases ho'
          exact I.pan hk hc hok hgl hS.dlt hcanon hmc ho hn hwy hop hQ
      · exfalso
        rcases hend with ⟨h1, _⟩ | ⟨_, o', v, rfl, ho', hwy, hn, hop, hal⟩
        · omega
        · unfold allWait at hal
          have := List.all_eq_true.1 hal i (List.mem_range.2 hlt)
          have hb : bitAt (Region.before ops) i L = true := by
            rcases Bool.or_eq_true_iff.1 this with h | h
            · have := of_decide_eq_true h; omega
            · exact h
          have := I.inL L (hmc.bits hk I.closed L hb)
          omega
  have hst := hS.begin (n := (As L).size) hm0
  have hno : ∀ i, (Array.replicate ops.size false).getD i false = true → False := by
    intro i hi
    rw [Array.getD_eq_getD_getElem?, Array.getElem?_replicate] at hi
    split at hi <;> simp at hi
  refine main ops.size _ 0 m1 ⟨(As 0).get, (As L).size⟩ a1 _ (by simp) (by simp) ⟨?_, ?_, by omega, ?_, ?_, hst.sim, fun b hb => rfl, ?_, ?_, Nat.le_refl _, ?_, rfl, rfl, hst⟩
  · intro j o _ hj; exact (hno j hj).elim
  · intro i hi; exact (hno i hi).elim
  · intro i o _ _ hi; exact (hno i hi).elim
  · intro i o _ hi; omega
  · intro i hi; exact (hno i hi).elim
  · intro b hb; exact .inl (hS.dlt b hb)
  · intro t k hkL h1 h2
    have := hc.slot (t := t) (i := 0) (j := k) (by omega) hkL (fun x ox _ hx hox hd => hno x (h1 x ox hx hox hd))
    rw [this]
    exact hE t
end
end Go.AM
