/- Soundness of the abstract machine, tenth part: maps. -/
import Derived.Test.YtcdnlghlbljopaaDoorAmS9
namespace Go.AM
open Go Go.RowKit
section
variable {P : Program} {ng ro base : Nat} {w0 : World} {m : Emb} {A : AH} {w : World}
theorem tMap_und {t : TypeId} {q : Kind} {e : TypeId} (h : tMap P t = some (q, e)) : ∃ kt d, P.underlying t = some (.map kt e) ∧ P.underlying kt = some d ∧ q.fits d := by
  unfold tMap at h
  split at h
  · rename_i k e' hu
    obtain ⟨q', hq, he⟩ := Option.map_eq_some_iff.1 h
    cases he
    obtain ⟨d, hd, hf⟩ := tKind_und hq
    exact ⟨k, d, hu, hd, hf⟩
  · cases h
theorem beq_bytes (a b : ByteArray) : (a == b) = decide (a.toList = b.toList) := by
  rw [beq_toListBytes]
  cases h : a.toList == b.toList
  · have : ¬ a.toList = b.toList := by simpa using h
    simp [this]
  · have : a.toList = b.toList := by simpa using h
    simp [this]
theorem keyEq_ok {q : Kind} {d : TypeDesc} {k k2 k' k2' : Value} {b : Bool} (hf : q.fits d) (h1 : VRel m k k') (h2 : VRel m k2 k2') (h : aKeyEq q k k2 = some b) : Instr.sameNow d k' k2' = some b := by
  unfold aKeyEq at h
  split at h
  · obtain rfl := h1.int_l
    obtain rfl := h2.int_l
    obtain rfl : d = _ := hf
    split at h
    · rename_i hk
      subst hk
      cases h
      simp [Instr.sameNow]
      rfl
    · cases h
  · obtain rfl := h1.str_l
    obtain rfl := h2.str_l
    obtain rfl : d = _ := hf
    cases h
    simp only [Instr.sameNow, beq_bytes]
  · obtain rfl := h1.bool_l
    obtain rfl := h2.bool_l
    obtain rfl : d = _ := hf
    cases h
    rfl
  · cases h
theorem find_ok {q : Kind} {d : TypeDesc} {k k' : Value} (hf : q.fits d) (hk : VRel m k k') : ∀ (es : List (Value × Value)) (es' : List MapEntry) (r : Option Value), ERel m es es' → aFind q k es = some r →
    ∀ i, ∃ r', Instr.findNow d k' es' i = some r' ∧ (match r, r' with | none, none => True | some v, some (_, v') => VRel m v v' | _, _ => False) := by
  intro es
  induction es with
  | nil =>
    intro es' r he h i
    obtain rfl : es' = [] := List.eq_nil_of_length_eq_zero he.1.symm
    cases h
    exact ⟨none, rfl, trivial⟩
  | cons kv es ih =>
    obtain ⟨k2, v2⟩ := kv
    intro es' r he h i
    cases es' with
    | nil => simp [ERel] at he
    | cons en es' =>
      obtain ⟨en', h1, h2, h3⟩ := he.2 0 k2 v2 rfl
      simp at h1
      subst h1
      have he' : ERel m es es' := ⟨by simpa using he.1, fun j a b hj => by simpa using he.2 (j + 1) a b (by simpa using hj)⟩
      unfold aFind at h
      split at h
      · rename_i hq
        cases h
        exact ⟨some (i, en.val), by simp only [Instr.findNow, keyEq_ok hf hk h2 hq], h3⟩
      · rename_i hq
        obtain ⟨r', g1, g2⟩ := ih es' r he' h (i + 1)
        exact ⟨r', by simp only [Instr.findNow, keyEq_ok hf hk h2 hq]; exact g1, g2⟩
      · cases h
theorem checkKey_ok {q : Kind} {kt : TypeId} {d : TypeDesc} {k : Value} {e : Bool} (hu : P.underlying kt = some d) (hf : q.fits d) (h : aKeyOk q k = true) (w : World) : (Instr.checkKey e 10000 kt k).run P w = .ok () w := by
  show (Instr.checkKey e (9999 + 1) kt k).run P w = .ok () w
  generalize 9999 = n
  unfold aKeyOk at h
  split at h
  · obtain rfl : d = _ := hf
    simp [Instr.checkKey, run_und hu]
  · obtain rfl : d = _ := hf
    simp [Instr.checkKey, run_und hu]
  · obtain rfl : d = _ := hf
    simp [Instr.checkKey, run_und hu]
  · cases h
theorem VRel.keyOk {q : Kind} {k k' : Value} (h : VRel m k k') (hk : aKeyOk q k = true) : aKeyOk q k' = true := by
  unfold aKeyOk at hk
  split at hk
  · obtain rfl := h.int_l; rfl
  · obtain rfl := h.str_l; rfl
  · obtain rfl := h.bool_l; rfl
  · cases hk
theorem lookup_ok (hS : Sim ng ro base w0 m A w) {t : TypeId} {x k x' k' r : Value} {ok : Bool} (hx : VRel m x x') (hk : VRel m k k') (h : aLookup P A t x k ok = some r) :
    ∃ r', (Instr.lookup t x' k' ok).run P w = .ok r' w ∧ VRel m r r' := by
  unfold aLookup at h
  split at h
  · rename_i q e hm
    obtain ⟨kt, d, hu, hkt, hf⟩ := tMap_und hm
    split at h
    · rename_i es hes
      split at h
      · rename_i hkey
        have hk' := hk.keyOk hkey
        obtain ⟨es', he, hx'⟩ : ∃ es' : Array MapEntry, ERel m es es'.toList ∧ ((x' = .map none ∧ es' = #[]) ∨ ∃ b cl, x' = .map (some b) ∧ w.heap[b]? = some (.map es' cl)) := by
          unfold aEntries at hes
          split at hes
          · cases hes
            cases hx
            exact ⟨#[], by simp [ERel], .inl ⟨rfl, rfl⟩⟩
          · rename_i b
            split at hes
            · rename_i es0 hg
              cases hes
              cases hx
              obtain ⟨_, es', cl, h1, h2⟩ := hS.maps b _ hg
              exact ⟨es', h2, .inr ⟨_, cl, rfl, h1⟩⟩
            · cases hes
          · cases hes
        have hrun : ∀ (fr : Option (Nat × Value)), Instr.findNow d k' es'.toList 0 = some fr → (Instr.lookup t x' k' ok).run P w =
            match fr with
            | some (_, v) => .ok (if ok then .tuple #[v, .bool true] else v) w
            | none => ((zeroValue e).run P w).andThen fun z w' => .ok (if ok then .tuple #[z, .bool false] else z) w' := by
          intro fr hfr
          have hc := fun b => checkKey_ok (P := P) (e := b) hkt hf hk' w
          rcases hx' with ⟨rfl, rfl⟩ | ⟨b, cl, rfl, hb⟩
          · simp only [Instr.lookup, Sem.run_bind, run_und hu, Result.andThen_ok, Sem.run_pure, hc, Instr.findKey, run_und hkt, hfr]
            cases fr with
            | none => simp only [Sem.run_bind, Result.andThen_ok, Sem.run_pure]
                      first | done | (cases (zeroValue e).run P w <;> rfl)
            | some x => simp
          · simp only [Instr.lookup, Sem.run_bind, run_und hu, Result.andThen_ok, Sem.run_pure, hc, Instr.findKey, run_und hkt, hfr, getObj, Sem.run, hb]
            cases fr with
            | none => simp only [Sem.run_bind, Result.andThen_ok, Sem.run_pure]
                      first | done | (cases (zeroValue e).run P w <;> rfl)
            | some x => simp
        split at h
        · rename_i v hfd
          cases h
          obtain ⟨r', g1, g2⟩ := find_ok hf hk es _ _ he hfd 0
          cases r' with
          | none => exact g2.elim
          | some iv =>
            obtain ⟨i, v'⟩ := iv
            refine ⟨_, hrun _ g1, ?_⟩
            cases ok
            · exact g2
            · exact .tuple _ _ (.cons _ _ _ _ g2 (.cons _ _ _ _ (.bool _) .nil))
        · rename_i hfd
          obtain ⟨r', g1, g2⟩ := find_ok hf hk es _ _ he hfd 0
          cases r' with
          | some iv => exact g2.elim
          | none =>
            split at h
            · rename_i z hz
              cases h
              obtain ⟨h1, h2⟩ := run_zero hz w
              refine ⟨if ok then .tuple #[z, .bool false] else z, by rw [hrun _ g1]; simp [h1], ?_⟩
              cases ok
              · exact VRel.ground m h2
              · exact .tuple _ _ (.cons _ _ _ _ (VRel.ground m h2) (.cons _ _ _ _ (.bool _) .nil))
            · cases h
        · cases h
      · cases h
    · cases h
  · cases h
theorem sameBits_of {q : Kind} {k k2 k' k2' : Value} (h1 : VRel m k k') (h2 : VRel m k2 k2') (h : aKeyEq q k k2 = some true) (n : Nat) : Instr.sameBits n k2' k' = true := by
  unfold aKeyEq at h
  split at h
  · obtain rfl := h1.int_l
    obtain rfl := h2.int_l
    split at h
    · rename_i hk
      subst hk
      simp at h
      subst h
      cases n <;> simp [Instr.sameBits]
    · cases h
  · obtain rfl := h1.str_l
    obtain rfl := h2.str_l
    simp at h
    cases n <;> simp [Instr.sameBits, beq_bytes, h]
  · obtain rfl := h1.bool_l
    obtain rfl := h2.bool_l
    simp at h
    subst h
    cases n <;> simp [Instr.sameBits]
  · cases h
/-- The entries behind a store. -/
theorem set_ok {q : Kind} {d : TypeDesc} {k k' v v' : Value} (hf : q.fits d) (hk : VRel m k k') (hv : VRel m v v') : ∀ (es : List (Value × Value)) (es' : List MapEntry) (out : List (Value × Value)), ERel m es es' → aSet q k v es = some out →
    ∀ i, (∃ j v0 en, Instr.findNow d k' es' i = some (some (i + j, v0)) ∧ es'[j]? = some en ∧ Instr.sameBits 10000 en.key k' = true ∧ out.length = es.length ∧
        ∀ en2 : MapEntry, en2.key = k' → en2.val = v' → ERel m out (es'.set j en2)) ∨
      (Instr.findNow d k' es' i = some none ∧ out = es ++ [(k, v)]) := by
  intro es
  induction es with
  | nil =>
    intro es' out he h i
    obtain rfl : es' = [] := List.eq_nil_of_length_eq_zero he.1.symm
    cases h
    exact .inr ⟨rfl, rfl⟩
  | cons kv es ih =>
    obtain ⟨k2, v2⟩ := kv
    intro es' out he h i
    cases es' with
    | nil => simp [ERel] at he
    | cons en es' =>
      obtain ⟨en', h1, h2, h3⟩ := he.2 0 k2 v2 rfl
      simp at h1
      subst h1
      have he' : ERel m es es' := ⟨by simpa using he.1, fun j a b hj => by simpa using he.2 (j + 1) a b (by simpa using hj)⟩
      unfold aSet at h
      split at h
      · rename_i hq
        cases h
        left
        refine ⟨0, en.val, en, by simp only [Instr.findNow, keyEq_ok hf hk h2 hq]; rfl, rfl, sameBits_of hk h2 hq 10000, by simp, ?_⟩
        · intro en2 e1 e2
          refine ⟨by simpa using he'.1, fun j a b hj => ?_⟩
          cases j with
          | zero => simp at hj; obtain ⟨rfl, rfl⟩ := hj; exact ⟨en2, rfl, by rw [e1]; exact hk, by rw [e2]; exact hv⟩
          | succ j => simpa using he'.2 j a b (by simpa using hj)
      · rename_i hq
        obtain ⟨out', ho, rfl⟩ := Option.map_eq_some_iff.1 h
        rcases ih es' out' he' ho (i + 1) with ⟨j, v0, en1, g1, g2, g3, g4, g5⟩ | ⟨g1, rfl⟩
        · left
          refine ⟨j + 1, v0, en1, ?_, by simpa using g2, g3, by simpa using g4, ?_⟩
          · simp only [Instr.findNow, keyEq_ok hf hk h2 hq]
            rw [g1]
            simp; omega
          · intro en2 e1 e2
            have := g5 en2 e1 e2
            refine ⟨by simpa using this.1, fun j' a b hj => ?_⟩
            cases j' with
            | zero => simp at hj; obtain ⟨rfl, rfl⟩ := hj; exact ⟨en, rfl, h2, h3⟩
            | succ j' => simpa using this.2 j' a b (by simpa using hj)
        · right
          exact ⟨by simp only [Instr.findNow, keyEq_ok hf hk h2 hq]; exact g1, rfl⟩
      · cases h
theorem oneBlock_set {w : World} {r : Nat} {ob ob0 : Obj} (h : w.heap[r]? = some ob0) : OneBlock r ob w { w with heap := w.heap.setIfInBounds r ob } := by
  have hr : r < w.heap.size := by
    rcases Nat.lt_or_ge r w.heap.size with h1 | h1
    · exact h1
    · rw [Array.getElem?_eq_none h1] at h; cases h
  exact ⟨rfl, rfl, rfl, by simp, by simp [hr], fun k hk => by simp [Ne.symm hk]⟩
theorem mapSet_ok (hS : Sim ng ro base w0 m A w) {t : TypeId} {x k v x' k' v' : Value} {A1 : AH} (hx : VRel m x x') (hk : VRel m k k') (hv : VRel m v v') (h : aMapSet P ro A t x k v = some A1) :
    ∃ w', (Instr.mapUpdate t x' k' v').run P w = .ok () w' ∧ Step ng ro base w0 m A w m A1 w' := by
  unfold aMapSet at h
  split at h
  · rename_i q e b hm
    obtain ⟨kt, d, hu, hkt, hf⟩ := tMap_und hm
    split at h
    · rename_i es vs hg hvs
      split at h
      · rename_i hc
        obtain ⟨hro, hkey⟩ := hc
        obtain ⟨out, ho, rfl⟩ := Option.map_eq_some_iff.1 h
        have hk' := hk.keyOk hkey
        have hck := checkKey_ok (P := P) (e := false) hkt hf hk' w
        cases hx
        obtain ⟨hd, es', cl, h1, h2⟩ := hS.maps b es hg
        have hlive : A.get b ≠ .dead := by rw [hg]; simp
        rcases set_ok hf hk hv es es'.toList out h2 ho 0 with ⟨j, v0, en, g1, g2, g3, g4, g5⟩ | ⟨g1, rfl⟩
        · rw [Nat.zero_add] at g1
          have g2' : es'[j]? = some en := by simpa using g2
          refine ⟨{ w with heap := w.heap.setIfInBounds (m.r b) (.map (es'.modify j fun e => { e with key := k', val := v' }) cl) }, ?_, ?_⟩
          · simp only [Instr.mapUpdate, Sem.run_bind, run_und hu, Result.andThen_ok, getObj, Sem.run, h1, hck, Instr.findKey, run_und hkt, g1, Sem.run_pure, Instr.keyThatStays, g2', Option.map_some, Option.getD_some, g3, if_true,
              setObj]
          · refine Step.put hS hlive hro (oneBlock_set h1) (fun c e h => by cases h) ?_
            intro es2 h2
            cases h2
            refine ⟨_, cl, rfl, ?_⟩
            have hl : (es'.modify j fun e => { e with key := k', val := v' }).toList = es'.toList.set j { en with key := k', val := v' } := by
              have hj : j < es'.toList.length := by
                rcases Nat.lt_or_ge j es'.toList.length with h | h
                · exact h
                · rw [List.getElem?_eq_none h] at g2; cases g2
              apply List.ext_getElem?
              intro i
              rw [List.getElem?_set]
              simp only [Array.getElem?_toList, Array.getElem?_modify, Array.length_toList] at *
              by_cases hij : j = i
              · subst hij
                have hjj : es'[j] = en := by rw [Array.getElem?_eq_getElem hj] at g2'; exact Option.some.inj g2'
                simp [hj, hjj]
              · simp [hij]
            rw [hl]
            exact g5 _ rfl rfl
        · refine ⟨{ w with heap := w.heap.setIfInBounds (m.r b) (.map (es'.push { key := k', val := v', born := cl }) (cl + 1)) }, ?_, ?_⟩
          · simp only [Instr.mapUpdate, Sem.run_bind, run_und hu, Result.andThen_ok, getObj, Sem.run, h1, hck, Instr.findKey, run_und hkt, g1, Sem.run_pure, setObj]
          · refine Step.put hS hlive hro (oneBlock_set h1) (fun c e h => by cases h) ?_
            intro es2 h2'
            cases h2'
            refine ⟨_, cl + 1, rfl, ?_⟩
            refine ⟨by simp [h2.1], fun i a c hi => ?_⟩
            by_cases hil : i < es.length
            · rw [List.getElem?_append_left hil] at hi
              obtain ⟨en, e1, e2⟩ := h2.2 i a c hi
              refine ⟨en, ?_, e2⟩
              have : i < es'.toList.length := by rw [← h2.1]; exact hil
              rw [Array.toList_push, List.getElem?_append_left this]
              exact e1
            · rw [List.getElem?_append_right (by omega)] at hi
              have hi0 : i - es.length = 0 := by
                rcases Nat.eq_zero_or_pos (i - es.length) with h | h
                · exact h
                · rw [List.getElem?_eq_none (by simp; omega)] at hi; cases hi
              rw [hi0] at hi
              simp at hi
              obtain ⟨rfl, rfl⟩ := hi
              have hie : i = es'.toList.length := by rw [← h2.1]; omega
              refine ⟨{ key := k', val := v', born := cl }, ?_, hk, hv⟩
              rw [Array.toList_push, List.getElem?_append_right (by omega), hie]
              simp
      · cases h
    · cases h
  · cases h
end
end Go.AM
