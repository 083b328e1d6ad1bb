/- Soundness of the abstract machine, second part: a new block, a block written anew, a block taken over. -/
import Derived.Test.YtcdnlghlbljopaaDoorAmS1
import Derived.Laws.IdiomCopy
namespace Go.AM
open Go Go.RowKit
/-- A block more. -/
def Emb.add (m : Emb) (b r s k e : Nat) : Emb where
  dom x := m.dom x ∨ x = b
  r x := if x = b then r else m.r x
  s x := if x = b then s else m.s x
  k x := if x = b then k else m.k x
  e x := if x = b then e else m.e x
theorem Emb.add_le {m : Emb} {b r s k e : Nat} (h : ¬ m.dom b) : m.Le (m.add b r s k e) where
  dom := fun _ h => .inl h
  r := fun x hx => if_neg (by rintro rfl; exact h hx)
  s := fun x hx => if_neg (by rintro rfl; exact h hx)
  k := fun x hx => if_neg (by rintro rfl; exact h hx)
  e := fun x hx => if_neg (by rintro rfl; exact h hx)
/-- Of the blocks that are told, one alone is new. -/
def DomOk (m m' : Emb) (n : Nat) : Prop := ∀ b, m'.dom b → m.dom b ∨ b = n
theorem DomOk.add {m : Emb} {b r s k e : Nat} : DomOk m (m.add b r s k e) b := fun _ h => h
theorem DomOk.refl {m : Emb} {n : Nat} : DomOk m m n := fun _ h => .inl h
@[simp] theorem Emb.add_dom {m : Emb} {b r s k e : Nat} : (m.add b r s k e).dom b := .inr rfl
@[simp] theorem Emb.add_r {m : Emb} {b r s k e : Nat} : (m.add b r s k e).r b = r := if_pos rfl
@[simp] theorem Emb.add_s {m : Emb} {b r s k e : Nat} : (m.add b r s k e).s b = s := if_pos rfl
@[simp] theorem Emb.add_k {m : Emb} {b r s k e : Nat} : (m.add b r s k e).k b = k := if_pos rfl
@[simp] theorem Emb.add_e {m : Emb} {b r s k e : Nat} : (m.add b r s k e).e b = e := if_pos rfl
section
variable {ng ro base : Nat} {w0 : World} {m : Emb} {A : AH} {w w' : World}
theorem Sim.fresh (h : Sim ng ro base w0 m A w) : ¬ m.dom A.size := fun hd => Nat.lt_irrefl _ (h.dlt _ hd)
theorem AH.get_new_ne {o : AObj} {b n : Nat} (h : b ≠ n) : (A.newAt n o).get b = A.get b := if_neg h
theorem AH.get_new {o : AObj} {n : Nat} : (A.newAt n o).get n = o := if_pos rfl
theorem AH.get_put {o : AObj} {b : Nat} : (A.put b o).get b = o := if_pos rfl
theorem AH.get_put_ne {o : AObj} {b b' : Nat} (h : b' ≠ b) : (A.put b o).get b' = A.get b' := if_neg h
theorem push_lt {w w' : World} {ob : Obj} (hw : w'.heap = w.heap.push ob) {i : Nat} (hi : i < w.heap.size) : w'.heap[i]? = w.heap[i]? := by
  rw [hw, Array.getElem?_push, if_neg (by omega)]
theorem push_at {w w' : World} {ob : Obj} (hw : w'.heap = w.heap.push ob) : w'.heap[w.heap.size]? = some ob := by
  rw [hw, Array.getElem?_push, if_pos rfl]
/-- What is live in the heap with one block more: that one, or it was live. -/
theorem new_live {o : AObj} {b n : Nat} (h : (A.newAt n o).get b ≠ .dead) : b = n ∨ A.get b ≠ .dead := by
  by_cases hb : b = n
  · exact .inl hb
  · exact .inr (by rwa [AH.get_new_ne hb] at h)
/-- A row of cells more, in the heap and in the world. -/
theorem Step.new {n : Nat} (hn : ¬ m.dom n) (hro : ro ≤ n) {c : List Value} {e : Nat} {c' : Array Value} {el : TypeId} {fz : Nat × Nat} (h : Sim ng ro base w0 m A w) (hw : w'.heap = w.heap.push (.cells c' el fz)) (ho : w'.os = w.os)
    (ht : w'.tape = w.tape) (hu : w'.output = w.output) (hl : c.length ≤ c'.size) (hc : CRel m 0 c c') (hf : FreeRow fz c'.size) :
    Step ng ro base w0 m A w (m.add n w.heap.size 0 c'.size e) (A.newAt n (.cells c e)) w' := by
  have hle := Emb.add_le (r := w.heap.size) (s := 0) (k := c'.size) (e := e) hn
  have hs : w'.heap.size = w.heap.size + 1 := by rw [hw]; simp
  have hr : ∀ b, A.get b ≠ .dead → (m.add n w.heap.size 0 c'.size e).r b = m.r b := fun b hb => hle.r b (h.dom_of hb)
  refine ⟨hle, ?_, Nat.le_max_left _ _, by omega, fun r hr _ => push_lt hw hr, ?_⟩
  · refine ⟨fun g hg => ?_, ?_, ?_, ?_, ?_, ?_, ?_, by have := h.bl; omega, Nat.le_trans h.rl (Nat.le_max_left _ _), ?_⟩
    · obtain ⟨h1, h2, h3⟩ := h.glob g hg
      exact ⟨.inl h1, (hle.r g h1).trans h2, (hle.s g h1).trans h3⟩
    · rintro b (hb | rfl)
      · exact Nat.lt_of_lt_of_le (h.dlt b hb) (Nat.le_max_left _ _)
      · exact Nat.lt_of_lt_of_le (Nat.lt_succ_self _) (Nat.le_max_right _ _)
    · intro b c2 e2 hb
      by_cases hbs : b = n
      · subst hbs
        rw [AH.get_new] at hb
        cases hb
        exact ⟨.inr rfl, c', el, fz, by simpa using push_at hw, by simp, by simp, by simpa using hl, by simpa using hc.mono hle, fun _ => hf⟩
      · rw [AH.get_new_ne hbs] at hb
        obtain ⟨hd, c2', el2, fz2, h1, h2, h3, h4, h5, h6⟩ := h.cells b c2 e2 hb
        have hlt := h.lt (b := b) (by rw [hb]; simp)
        refine ⟨.inl hd, c2', el2, fz2, ?_, ?_, ?_, ?_, ?_, h6⟩
        · rw [hle.r b hd, push_lt hw hlt, h1]
        · rw [hle.e b hd, h2]
        · rw [hle.k b hd, h3]
        · rw [hle.s b hd]; exact h4
        · rw [hle.s b hd]; exact h5.mono hle
    · intro b es hb
      by_cases hbs : b = n
      · subst hbs; rw [AH.get_new] at hb; cases hb
      · rw [AH.get_new_ne hbs] at hb
        obtain ⟨hd, es', cl, h1, h2⟩ := h.maps b es hb
        have hlt := h.lt (b := b) (by rw [hb]; simp)
        exact ⟨.inl hd, es', cl, by rw [hle.r b hd, push_lt hw hlt, h1], h2.mono hle⟩
    · intro b hb hbo
      rcases new_live hb with rfl | hb
      · simpa using h.bl
      · rw [hr b hb]; exact h.rw b hb hbo
    · intro b b' hb hb' hbo hbo' he
      rcases new_live hb with hbn | hb <;> rcases new_live hb' with hbn' | hb'
      · exact hbn.trans hbn'.symm
      · rw [hr b' hb', hbn] at he; simp at he; have := h.lt hb'; omega
      · rw [hr b hb, hbn'] at he; simp at he; have := h.lt hb; omega
      · rw [hr b hb, hr b' hb'] at he; exact h.inj b b' hb hb' hbo hbo' he
    · intro b hb hbo
      rcases new_live hb with rfl | hb
      · omega
      · rw [hr b hb]; exact h.lo b hb hbo
    · exact h.old.trans ⟨ho, ht, hu, by omega, fun k hk => push_lt hw (by have := h.bl; omega)⟩
  · intro b hb
    rcases new_live hb with rfl | hb
    · right; simp
    · left; exact ⟨b, hb, (hr b hb).symm⟩
/-- A map more. -/
theorem Step.newMap {n : Nat} (hn : ¬ m.dom n) (hro : ro ≤ n) {cl : Nat} (h : Sim ng ro base w0 m A w) (hw : w'.heap = w.heap.push (.map #[] cl)) (ho : w'.os = w.os)
    (ht : w'.tape = w.tape) (hu : w'.output = w.output) : Step ng ro base w0 m A w (m.add n w.heap.size 0 0 0) (A.newAt n (.map [])) w' := by
  have hle := Emb.add_le (r := w.heap.size) (s := 0) (k := 0) (e := 0) hn
  have hs : w'.heap.size = w.heap.size + 1 := by rw [hw]; simp
  have hr : ∀ b, A.get b ≠ .dead → (m.add n w.heap.size 0 0 0).r b = m.r b := fun b hb => hle.r b (h.dom_of hb)
  refine ⟨hle, ?_, Nat.le_max_left _ _, by omega, fun r hr _ => push_lt hw hr, ?_⟩
  · refine ⟨fun g hg => ?_, ?_, ?_, ?_, ?_, ?_, ?_, by have := h.bl; omega, Nat.le_trans h.rl (Nat.le_max_left _ _), ?_⟩
    · obtain ⟨h1, h2, h3⟩ := h.glob g hg
      exact ⟨.inl h1, (hle.r g h1).trans h2, (hle.s g h1).trans h3⟩
    · rintro b (hb | rfl)
      · exact Nat.lt_of_lt_of_le (h.dlt b hb) (Nat.le_max_left _ _)
      · exact Nat.lt_of_lt_of_le (Nat.lt_succ_self _) (Nat.le_max_right _ _)
    · intro b c2 e2 hb
      by_cases hbs : b = n
      · subst hbs; rw [AH.get_new] at hb; cases hb
      · rw [AH.get_new_ne hbs] at hb
        obtain ⟨hd, c2', el2, fz2, h1, h2, h3, h4, h5, h6⟩ := h.cells b c2 e2 hb
        have hlt := h.lt (b := b) (by rw [hb]; simp)
        refine ⟨.inl hd, c2', el2, fz2, ?_, ?_, ?_, ?_, ?_, h6⟩
        · rw [hle.r b hd, push_lt hw hlt, h1]
        · rw [hle.e b hd, h2]
        · rw [hle.k b hd, h3]
        · rw [hle.s b hd]; exact h4
        · rw [hle.s b hd]; exact h5.mono hle
    · intro b es hb
      by_cases hbs : b = n
      · subst hbs
        rw [AH.get_new] at hb
        cases hb
        exact ⟨.inr rfl, #[], cl, by simpa using push_at hw, by simp [ERel]⟩
      · rw [AH.get_new_ne hbs] at hb
        obtain ⟨hd, es', cl2, h1, h2⟩ := h.maps b es hb
        have hlt := h.lt (b := b) (by rw [hb]; simp)
        exact ⟨.inl hd, es', cl2, by rw [hle.r b hd, push_lt hw hlt, h1], h2.mono hle⟩
    · intro b hb hbo
      rcases new_live hb with rfl | hb
      · simpa using h.bl
      · rw [hr b hb]; exact h.rw b hb hbo
    · intro b b' hb hb' hbo hbo' he
      rcases new_live hb with hbn | hb <;> rcases new_live hb' with hbn' | hb'
      · exact hbn.trans hbn'.symm
      · rw [hr b' hb', hbn] at he; simp at he; have := h.lt hb'; omega
      · rw [hr b hb, hbn'] at he; simp at he; have := h.lt hb; omega
      · rw [hr b hb, hr b' hb'] at he; exact h.inj b b' hb hb' hbo hbo' he
    · intro b hb hbo
      rcases new_live hb with rfl | hb
      · omega
      · rw [hr b hb]; exact h.lo b hb hbo
    · exact h.old.trans ⟨ho, ht, hu, by omega, fun k hk => push_lt hw (by have := h.bl; omega)⟩
  · intro b hb
    rcases new_live hb with rfl | hb
    · right; simp
    · left; exact ⟨b, hb, (hr b hb).symm⟩
/-- A world that differs in one block alone. -/
structure OneBlock (r : Nat) (ob : Obj) (w w' : World) : Prop where
  os : w'.os = w.os
  tape : w'.tape = w.tape
  output : w'.output = w.output
  size : w'.heap.size = w.heap.size
  this : w'.heap[r]? = some ob
  other : ∀ k, k ≠ r → w'.heap[k]? = w.heap[k]?
/-- A live block that is the law's own is written anew. -/
theorem Step.put {b : Nat} {o : AObj} {ob : Obj} (h : Sim ng ro base w0 m A w) (hb : A.get b ≠ .dead) (hro : ro ≤ b) (hw : OneBlock (m.r b) ob w w')
    (hc : ∀ c e, o = .cells c e → ∃ c' el fz, ob = .cells c' el fz ∧ m.e b = e ∧ m.k b = c'.size ∧ m.s b + c.length ≤ c'.size ∧ CRel m (m.s b) c c' ∧ FreeRow fz c'.size)
    (hm : ∀ es, o = .map es → ∃ es' cl, ob = .map es' cl ∧ ERel m es es'.toList) :
    Step ng ro base w0 m A w m (A.put b o) w' := by
  have hlive : ∀ x, (A.put b o).get x ≠ .dead → A.get x ≠ .dead := fun x hx => by
    by_cases hxb : x = b
    · subst hxb; exact hb
    · rwa [AH.get_put_ne hxb] at hx
  have hne : ∀ x, x ≠ b → A.get x ≠ .dead → m.r x ≠ m.r b := fun x hxb hx he => by
    rcases Nat.lt_or_ge x ro with hlt | hge
    · have := h.lo x hx hlt; have := h.rw b hb hro; omega
    · exact hxb (h.inj x b hx hb hge hro he)
  refine ⟨.refl m, ?_, Nat.le_refl _, by rw [hw.size]; exact Nat.le_refl _, fun r _ hn => hw.other r (fun e => hn b hb e.symm), fun x hx => .inl ⟨x, hlive x hx, rfl⟩⟩
  refine ⟨h.glob, h.dlt, ?_, ?_, fun x hx => h.rw x (hlive x hx), fun x y hx hy => h.inj x y (hlive x hx) (hlive y hy), fun x hx => h.lo x (hlive x hx), by rw [hw.size]; exact h.bl, h.rl, ?_⟩
  · intro x c e hx
    by_cases hxb : x = b
    · subst hxb
      rw [AH.get_put] at hx
      obtain ⟨c', el, fz, rfl, h1, h2, h3, h4, h5⟩ := hc c e hx
      exact ⟨h.dom_of hb, c', el, fz, hw.this, h1, h2, h3, h4, fun _ => h5⟩
    · rw [AH.get_put_ne hxb] at hx
      obtain ⟨h1, c', el, fz, h2, h3⟩ := h.cells x c e hx
      exact ⟨h1, c', el, fz, (hw.other _ (hne x hxb (by rw [hx]; simp))).trans h2, h3⟩
  · intro x es hx
    by_cases hxb : x = b
    · subst hxb
      rw [AH.get_put] at hx
      obtain ⟨es', cl, rfl, h1⟩ := hm es hx
      exact ⟨h.dom_of hb, es', cl, hw.this, h1⟩
    · rw [AH.get_put_ne hxb] at hx
      obtain ⟨h1, es', cl, h2, h3⟩ := h.maps x es hx
      exact ⟨h1, es', cl, (hw.other _ (hne x hxb (by rw [hx]; simp))).trans h2, h3⟩
  · exact h.old.trans ⟨hw.os, hw.tape, hw.output, by rw [hw.size]; exact Nat.le_refl _, fun k hk => hw.other k (by have := h.rw b hb hro; omega)⟩
/-- A live row of the law's own dies, and a new abstract row takes its place in the world (append within the capacity). -/
theorem Step.take {b : Nat} {c : List Value} {e s : Nat} {c' : Array Value} {el : TypeId} {fz : Nat × Nat} (h : Sim ng ro base w0 m A w) (hb : A.get b ≠ .dead) (hro : ro ≤ b)
    (hw : OneBlock (m.r b) (.cells c' el fz) w w') (hl : s + c.length ≤ c'.size) (hc : CRel m s c c') (hf : FreeRow fz c'.size) :
    Step ng ro base w0 m A w (m.add A.size (m.r b) s c'.size e) ((A.put b .dead).new (.cells c e)) w' := by
  have hle := Emb.add_le (r := m.r b) (s := s) (k := c'.size) (e := e) h.fresh
  have hbs : b < A.size := h.live_lt hb
  have hlive : ∀ x, ((A.put b .dead).new (.cells c e)).get x ≠ .dead → x = A.size ∨ (x ≠ b ∧ x ≠ A.size ∧ A.get x ≠ .dead) := fun x hx => by
    by_cases hxs : x = A.size
    · exact .inl hxs
    · rw [show ((A.put b .dead).new (.cells c e)).get x = (A.put b .dead).get x from if_neg hxs] at hx
      by_cases hxb : x = b
      · subst hxb; rw [AH.get_put] at hx; exact absurd rfl hx
      · rw [AH.get_put_ne hxb] at hx; exact .inr ⟨hxb, hxs, hx⟩
  have hget : ∀ x, x ≠ b → x ≠ A.size → ((A.put b .dead).new (.cells c e)).get x = A.get x := fun x hxb hxs => by
    rw [show ((A.put b .dead).new (.cells c e)).get x = (A.put b .dead).get x from if_neg hxs, AH.get_put_ne hxb]
  have hnew : ((A.put b .dead).new (.cells c e)).get A.size = .cells c e := if_pos rfl
  have hgb : ((A.put b .dead).new (.cells c e)).get b = .dead := by
    rw [show ((A.put b .dead).new (.cells c e)).get b = (A.put b .dead).get b from if_neg (by show b ≠ A.size; omega), AH.get_put]
  have hne : ∀ x, x ≠ b → A.get x ≠ .dead → m.r x ≠ m.r b := fun x hxb hx he => by
    rcases Nat.lt_or_ge x ro with hlt | hge
    · have := h.lo x hx hlt; have := h.rw b hb hro; omega
    · exact hxb (h.inj x b hx hb hge hro he)
  have hr : ∀ x, A.get x ≠ .dead → (m.add A.size (m.r b) s c'.size e).r x = m.r x := fun x hx => hle.r x (h.dom_of hx)
  refine ⟨hle, ?_, by simp [AH.new, AH.put], by rw [hw.size]; exact Nat.le_refl _, fun r _ hn => hw.other r (fun e => hn b hb e.symm), ?_⟩
  · refine ⟨fun g hg => ?_, ?_, ?_, ?_, ?_, ?_, ?_, by rw [hw.size]; exact h.bl, by have := h.rl; simp [AH.new, AH.put]; omega, ?_⟩
    · obtain ⟨h1, h2, h3⟩ := h.glob g hg
      exact ⟨.inl h1, (hle.r g h1).trans h2, (hle.s g h1).trans h3⟩
    · rintro x (hx | rfl)
      · have := h.dlt x hx; simp [AH.new, AH.put]; omega
      · simp [AH.new, AH.put]
    · intro x c2 e2 hx
      rcases hlive x (by rw [hx]; simp) with rfl | ⟨hxb, hxs, hxl⟩
      · rw [hnew] at hx
        cases hx
        exact ⟨.inr rfl, c', el, fz, by simpa using hw.this, by simp, by simp, by simpa using hl, by simpa using hc.mono hle, fun _ => hf⟩
      · rw [hget x hxb hxs] at hx
        obtain ⟨hd, c2', el2, fz2, h1, h2, h3, h4, h5, h6⟩ := h.cells x c2 e2 hx
        refine ⟨.inl hd, c2', el2, fz2, ?_, ?_, ?_, ?_, ?_, h6⟩
        · rw [hle.r x hd, hw.other _ (hne x hxb hxl), h1]
        · rw [hle.e x hd, h2]
        · rw [hle.k x hd, h3]
        · rw [hle.s x hd]; exact h4
        · rw [hle.s x hd]; exact h5.mono hle
    · intro x es hx
      rcases hlive x (by rw [hx]; simp) with rfl | ⟨hxb, hxs, hxl⟩
      · rw [hnew] at hx; cases hx
      · rw [hget x hxb hxs] at hx
        obtain ⟨hd, es', cl, h1, h2⟩ := h.maps x es hx
        exact ⟨.inl hd, es', cl, by rw [hle.r x hd, hw.other _ (hne x hxb hxl), h1], h2.mono hle⟩
    · intro x hx hxo
      rcases hlive x hx with rfl | ⟨hxb, hxs, hxl⟩
      · simpa using h.rw b hb hro
      · rw [hr x hxl]; exact h.rw x hxl hxo
    · intro x y hx hy hxo hyo he
      rcases hlive x hx with rfl | ⟨hxb, hxs, hxl⟩ <;> rcases hlive y hy with rfl | ⟨hyb, hys, hyl⟩
      · rfl
      · rw [hr y hyl] at he; simp at he; exact absurd he.symm (hne y hyb hyl)
      · rw [hr x hxl] at he; simp at he; exact absurd he (hne x hxb hxl)
      · rw [hr x hxl, hr y hyl] at he; exact h.inj x y hxl hyl hxo hyo he
    · intro x hx hxo
      rcases hlive x hx with rfl | ⟨hxb, hxs, hxl⟩
      · have := h.rl; omega
      · rw [hr x hxl]; exact h.lo x hxl hxo
    · exact h.old.trans ⟨hw.os, hw.tape, hw.output, by rw [hw.size]; exact Nat.le_refl _, fun k hk => hw.other k (by have := h.rw b hb hro; omega)⟩
  · intro x hx
    rcases hlive x hx with rfl | ⟨hxb, hxs, hxl⟩
    · left; exact ⟨b, hb, by simp⟩
    · left; exact ⟨x, hxl, (hr x hxl).symm⟩
end
end Go.AM
