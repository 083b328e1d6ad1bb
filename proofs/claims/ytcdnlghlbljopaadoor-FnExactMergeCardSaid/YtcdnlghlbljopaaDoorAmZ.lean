/- What stands outside of turned blocks; plain: notes. -/
import Derived.Test.YtcdnlghlbljopaaDoorAmY
namespace Go.AM
open Go
set_option linter.unusedVariables false
set_option linter.unusedSimpArgs false
section
variable {A A' : AH} {F : List Nat} {lo hi : Nat}
theorem ExtX.out (h : ExtX F A A') (hF : ∀ b, b ∈ F → lo ≤ b ∧ b < hi) : ∀ b, b < A.size → (b < lo ∨ hi ≤ b) → A'.get b = A.get b :=
  fun b hb hn => h.get b hb fun hm => by have := hF b hm; omega
theorem SlR.out {α : Type} [Dat α] {s : Sl} {l : List α} {G : List Nat} (h : SlR A s l G) (hX : ExtX F A A') (hF : ∀ b, b ∈ F → lo ≤ b ∧ b < hi) (hG : ∀ b, b ∈ G → b < lo ∨ hi ≤ b) : SlR A' s l G :=
  h.extx hX fun b hb hm => by have := hF b hm; have := hG b hb; omega
theorem Dat.out {α : Type} [Dat α] {x : α} {cs : List Value} {G : List Nat} (h : Dat.rep A x cs G) (hX : ExtX F A A') (hF : ∀ b, b ∈ F → lo ≤ b ∧ b < hi) (hG : ∀ b, b ∈ G → b < lo ∨ hi ≤ b) : Dat.rep A' x cs G :=
  Dat.frame h fun b hb => ⟨hX.out hF b (Dat.bound h b hb) (hG b hb), Nat.lt_of_lt_of_le (Dat.bound h b hb) hX.size⟩
theorem ExtX.base {A0 : AH} (h : ExtX F A A') (hF : ∀ b, b ∈ F → lo ≤ b ∧ b < hi) (hE : Ext A0 A) (hl : A0.size ≤ lo) : Ext A0 A' :=
  ⟨Nat.le_trans hE.size h.size, fun b hb => (h.out hF b (Nat.lt_of_lt_of_le hb hE.size) (.inl (Nat.lt_of_lt_of_le hb hl))).trans (hE.get b hb)⟩
theorem Fresh.both (h : Fresh A F A') : ∀ b, b ∈ F → A.size ≤ b ∧ b < A'.size := fun b hb => ⟨h.lo b hb, h.hi b hb⟩
end
/-- Rows without blocks of their own. -/
theorem Reps.nofoot {α : Type} [Dat α] (hα : ∀ {A : AH} {x : α} {cs F}, Dat.rep A x cs F → F = []) {A : AH} {l : List α} {cs : List Value} {F : List Nat} (h : Reps A l cs F) : F = [] := by
  induction h with
  | nil => rfl
  | cons h k ih => rw [hα h, ih]; rfl
theorem nofoot_Ins {A : AH} {x : TIns} {cs F} (h : Dat.rep A x cs F) : F = [] := (rep_Ins.1 h).2.1
theorem nofoot_Str {A : AH} {x : ByteArray} {cs F} (h : Dat.rep A x cs F) : F = [] := h.2.1
theorem nofoot_Glance {A : AH} {x : TGlance} {cs F} (h : Dat.rep A x cs F) : F = [] := (rep_Glance.1 h).2.1
theorem nofoot_Source {A : AH} {x : TSource} {cs F} (h : Dat.rep A x cs F) : F = [] := (rep_Source.1 h).2.1
/-! ### Notes -/
def glanceOf (w : Int) (x : TSeen) : TGlance := (x.1, x.2.1, sumS x.2.2 w)
def zeroRec : TRecord := ([], [], ⟨#[]⟩)
def noteBad (p : TProgram) (l : List TSeen) (f : ByteArray) (w : Int) : Prop := ¬ ProgOk p ∨ ¬ isW w ∨ 200 < l.length ∨ f = ⟨#[]⟩
instance (p : TProgram) (l : List TSeen) (f : ByteArray) (w : Int) : Decidable (noteBad p l f w) := by unfold noteBad; infer_instance
def noteR (p : TProgram) (l : List TSeen) (f : ByteArray) (w : Int) : TRecord :=
  if noteBad p l f w then zeroRec else if ∀ x ∈ l, NameOk x.1 then (p, l.map (glanceOf w), sumS f w) else zeroRec
theorem noteR_bad {p : TProgram} {l : List TSeen} {f : ByteArray} {w : Int} (h : noteBad p l f w) : noteR p l f w = zeroRec := if_pos h
theorem noteR_no {p : TProgram} {l : List TSeen} {f : ByteArray} {w : Int} {i : Nat} (hi : i < l.length) (h : ¬ NameOk l[i].1) : noteR p l f w = zeroRec := by
  unfold noteR
  split
  · rfl
  · rw [if_neg (fun k => h (k _ (List.getElem_mem hi)))]
theorem noteR_ok {p : TProgram} {l : List TSeen} {f : ByteArray} {w : Int} (h : ¬ noteBad p l f w) (k : ∀ x ∈ l, NameOk x.1) : noteR p l f w = (p, l.map (glanceOf w), sumS f w) := by
  unfold noteR; rw [if_neg h, if_pos k]
theorem szL_cons' {α : Type} (f : α → Nat) (x : α) (l : List α) : szL f (x :: l) = 1 + f x + szL f l := by
  simp only [szL, List.length_cons, List.map_cons, List.sum_cons]; omega
theorem szL_glanceOf (w : Int) : ∀ l : List TSeen, szL Mk.sz (l.map (glanceOf w)) ≤ 9 * szL Mk.sz l
  | [] => Nat.le_refl _
  | x :: l => by
    have := szL_glanceOf w l
    have h1 := sumS_le x.2.2 w
    have e1 : szL Mk.sz ((x :: l).map (glanceOf w)) = 1 + (x.1.size + (0 + (sumS x.2.2 w).size)) + szL Mk.sz (l.map (glanceOf w)) := by rw [List.map_cons, szL_cons']; rfl
    have e2 : szL Mk.sz (x :: l) = 1 + (x.1.size + (0 + x.2.2.size)) + szL Mk.sz l := by rw [szL_cons']; rfl
    omega
theorem noteR_sz (p : TProgram) (l : List TSeen) (f : ByteArray) (w : Int) : Mk.sz (noteR p l f w) ≤ szL Mk.sz p + 9 * szL Mk.sz l + 8 := by
  have h1 := szL_glanceOf w l
  have h2 := sumS_le f w
  have h0 : Mk.sz zeroRec = 0 := rfl
  have h3 : Mk.sz ((p, l.map (glanceOf w), sumS f w) : TRecord) = szL Mk.sz p + (szL Mk.sz (l.map (glanceOf w)) + (sumS f w).size) := rfl
  unfold noteR
  split
  · omega
  · split <;> omega
theorem formR_size (c : Int) (t : ByteArray) (l : List ByteArray) : (formR c t l).size ≤ 2002 := by
  by_cases h : formBad c t l
  · rw [formR_bad h]; show 0 ≤ _; omega
  · rw [formR_ok h, ByteArray.size_append]
    have : ¬ 2000 < t.size := fun k => h (.inr (.inr (.inl k)))
    show 2 + _ ≤ _
    omega
end Go.AM
