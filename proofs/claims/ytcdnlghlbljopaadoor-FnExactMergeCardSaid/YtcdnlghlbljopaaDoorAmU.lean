/- Maps that are keyed by texts; clashes of sums. -/
import Derived.Test.YtcdnlghlbljopaaDoorAmT2
namespace Go.AM
open Go
set_option linter.unusedVariables false
set_option linter.unusedSimpArgs false
/-! ### Maps -/
abbrev SMap := List (ByteArray × Value)
def mp (es : SMap) : List (Value × Value) := es.map fun x => (.string x.1, x.2)
def lk (es : SMap) (k : ByteArray) : Option Value := (es.find? fun x => decide (x.1 = k)).map (·.2)
def kset (es : SMap) (k : ByteArray) (v : Value) : SMap :=
  match es with
  | [] => [(k, v)]
  | x :: r => if x.1 = k then (k, v) :: r else x :: kset r k v
theorem keyEq (a b : ByteArray) : aKeyEq .str (.string a) (.string b) = some (decide (a = b)) := by
  simp only [aKeyEq, str_dec]
theorem aFind_mp (k : ByteArray) : ∀ es : SMap, aFind .str (.string k) (mp es) = some (lk es k)
  | [] => rfl
  | x :: r => by
    have ih := aFind_mp k r
    show (match aKeyEq .str (.string k) (.string x.1) with | some true => some (some x.2) | some false => aFind .str (.string k) (mp r) | none => none) = _
    rw [keyEq]
    by_cases h : k = x.1
    · subst h; simp [lk]
    · have h' : ¬ x.1 = k := fun e => h e.symm
      simp only [decide_eq_false h, ih, lk, List.find?_cons, decide_eq_false h']
theorem aSet_mp (k : ByteArray) (v : Value) : ∀ es : SMap, aSet .str (.string k) v (mp es) = some (mp (kset es k v))
  | [] => rfl
  | x :: r => by
    have ih := aSet_mp k v r
    show (match aKeyEq .str (.string k) (.string x.1) with | some true => some ((Value.string k, v) :: mp r) | some false => (aSet .str (.string k) v (mp r)).map ((Value.string x.1, x.2) :: ·) | none => none) = _
    rw [keyEq]
    by_cases h : k = x.1
    · subst h; simp [kset, mp]
    · have h' : ¬ x.1 = k := fun e => h e.symm
      simp only [decide_eq_false h, ih, kset, if_neg h', Option.map_some]
      rfl
theorem lk_kset (k k' : ByteArray) (v : Value) : ∀ es : SMap, lk (kset es k v) k' = if k' = k then some v else lk es k'
  | [] => by
    by_cases h : k' = k
    · subst h; simp [kset, lk]
    · have h' : ¬ k = k' := fun e => h e.symm
      simp [kset, lk, h, h']
  | x :: r => by
    have ih := lk_kset k k' v r
    unfold kset
    by_cases hx : x.1 = k
    · rw [if_pos hx]
      by_cases h : k' = k
      · subst h; simp [lk]
      · have h' : ¬ k = k' := fun e => h e.symm
        have h2 : ¬ x.1 = k' := fun e => h (e.symm.trans hx)
        simp [lk, h, h', h2]
    · rw [if_neg hx]
      by_cases h3 : x.1 = k'
      · subst h3
        simp [lk, hx]
      · have e1 : ∀ r : SMap, lk (x :: r) k' = lk r k' := fun r => by simp [lk, h3]
        rw [e1, e1, ih]
section
variable {P : Program} {ro : Nat} {A : AH} {t e : TypeId} {b : Nat} {es : SMap} {z : Value}
theorem look2 (ht : tMap P t = some (.str, e)) (hz : tZero P e = some z) (hg : A.get b = .map (mp es)) (k : ByteArray) :
    aLookup P A t (.map (some b)) (.string k) true = some (match lk es k with | some v => .tuple #[v, .bool true] | none => .tuple #[z, .bool false]) := by
  unfold aLookup
  simp only [ht, aEntries, hg, aKeyOk, if_true, aFind_mp]
  cases lk es k <;> simp [hz]
theorem look1 (ht : tMap P t = some (.str, e)) (hz : tZero P e = some z) (hg : A.get b = .map (mp es)) (k : ByteArray) :
    aLookup P A t (.map (some b)) (.string k) false = some ((lk es k).getD z) := by
  unfold aLookup
  simp only [ht, aEntries, hg, aKeyOk, if_true, aFind_mp]
  cases lk es k <;> simp [hz]
theorem mset (ht : tMap P t = some (.str, e)) (hg : A.get b = .map (mp es)) (hro : ro ≤ b) (k : ByteArray) {v : Value} {vs : List Value} (hv : acells v = some vs) :
    aMapSet P ro A t (.map (some b)) (.string k) v = some (A.put b (.map (mp (kset es k v)))) := by
  unfold aMapSet
  simp only [ht, hg, hv, aKeyOk, hro, and_self, if_true, aSet_mp, Option.map_some]
end
/-! ### Clashes -/
/-- The first text of some that has a text's sum and is another. -/
def other (w : Int) (pre : List ByteArray) (t : ByteArray) : Option ByteArray := pre.find? fun x => decide (sumS x w = sumS t w ∧ x ≠ t)
/-- The first clash behind some texts. -/
def clashGo (w : Int) (pre : List ByteArray) : List ByteArray → Option (ByteArray × ByteArray)
  | [] => none
  | t :: r => match other w pre t with
    | some x => some (x, t)
    | none => clashGo w (pre ++ [t]) r
def clashL (ts : List ByteArray) (w : Int) : Option (ByteArray × ByteArray) := clashGo w [] ts
/-- What Clash answers. -/
def clashV : Option (ByteArray × ByteArray) → Value
  | some x => .tuple #[.string x.1, .string x.2, .bool true]
  | none => .tuple #[.string ⟨#[]⟩, .string ⟨#[]⟩, .bool false]
theorem clashV_ex (c : Option (ByteArray × ByteArray)) : ∃ a b d, clashV c = .tuple #[.string a, .string b, .bool d] := by
  cases c with
  | none => exact ⟨_, _, _, rfl⟩
  | some x => exact ⟨_, _, _, rfl⟩
def clashR (ts : List ByteArray) (w : Int) : Option (ByteArray × ByteArray) := if isW w ∧ ts.length ≤ 5000 then clashL ts w else none
/-- No clash among some texts. -/
def NoClash (w : Int) (l : List ByteArray) : Prop := ∀ x ∈ l, ∀ y ∈ l, sumS x w = sumS y w → x = y
theorem NoClash.other {w : Int} {l : List ByteArray} (h : NoClash w l) (t : ByteArray) : other w l t = match l.find? (fun x => decide (sumS x w = sumS t w)) with | some f => if f = t then none else some f | none => none := by
  cases hf : l.find? (fun x => decide (sumS x w = sumS t w)) with
  | none =>
    rw [List.find?_eq_none] at hf
    simp only [AM.other]
    rw [List.find?_eq_none]
    intro x hx
    have := hf x hx
    simp at this
    simp [this]
  | some f =>
    have hm := List.mem_of_find?_eq_some hf
    have hs := List.find?_some hf
    simp at hs
    by_cases e : f = t
    · simp only [e, if_true, AM.other]
      rw [List.find?_eq_none]
      intro x hx
      simp only [decide_eq_true_eq, not_and, ne_eq, Classical.not_not]
      intro hxs
      have := h x hx f hm (hxs.trans hs.symm)
      rw [this, e]
    · simp only [e, if_false, AM.other]
      have : ∀ k : List ByteArray, (∀ x ∈ k, x ∈ l) → k.find? (fun x => decide (sumS x w = sumS t w ∧ x ≠ t)) = k.find? (fun x => decide (sumS x w = sumS t w)) := by
        intro k
        induction k with
        | nil => intro _; rfl
        | cons y k ih =>
          intro hk
          by_cases hy : sumS y w = sumS t w
          · have hyf : y = f := h y (hk y (by simp)) f hm (hy.trans hs.symm)
            have hyt : y ≠ t := by rw [hyf]; exact e
            simp [hy, hyt]
          · simp only [List.find?_cons, hy, false_and, decide_false]
            exact ih fun x hx => hk x (by simp [hx])
      rw [this l fun x hx => hx, hf]
theorem NoClash.snoc {w : Int} {l : List ByteArray} (h : NoClash w l) {t : ByteArray} (ho : AM.other w l t = none) : NoClash w (l ++ [t]) := by
  have hk : ∀ x ∈ l, sumS x w = sumS t w → x = t := by
    intro x hx hs
    rw [AM.other, List.find?_eq_none] at ho
    have := ho x hx
    simp only [decide_eq_true_eq, not_and, ne_eq, Classical.not_not] at this
    exact this hs
  intro x hx y hy hs
  rcases List.mem_append.1 hx with h1 | h1 <;> rcases List.mem_append.1 hy with h2 | h2
  · exact h x h1 y h2 hs
  · have e := List.mem_singleton.1 h2; rw [e] at hs ⊢; exact hk x h1 hs
  · have e := List.mem_singleton.1 h1; rw [e] at hs ⊢; exact (hk y h2 hs.symm).symm
  · rw [List.mem_singleton.1 h1, List.mem_singleton.1 h2]
theorem clash_sound {w : Int} : ∀ {r pre : List ByteArray} {a b : ByteArray}, clashGo w pre r = some (a, b) → a ≠ b ∧ sumS a w = sumS b w
  | [], _, _, _, h => by cases h
  | t :: r, pre, a, b, h => by
    unfold clashGo at h
    cases ho : AM.other w pre t with
    | some x =>
      rw [ho] at h
      cases h
      have := List.find?_some ho
      simp at this
      exact ⟨this.2, this.1⟩
    | none => rw [ho] at h; exact clash_sound h
theorem clash_none {w : Int} : ∀ {r pre : List ByteArray}, NoClash w pre → clashGo w pre r = none → NoClash w (pre ++ r)
  | [], pre, hp, _ => by simpa using hp
  | t :: r, pre, hp, h => by
    unfold clashGo at h
    cases ho : AM.other w pre t with
    | some x => rw [ho] at h; cases h
    | none =>
      rw [ho] at h
      have := clash_none (hp.snoc ho) h
      simpa using this
end Go.AM
