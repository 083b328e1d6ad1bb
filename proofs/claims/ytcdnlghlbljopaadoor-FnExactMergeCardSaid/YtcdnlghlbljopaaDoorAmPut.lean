/- Plain: a text put among texts that rise by their sums; two stores merged. -/
import Derived.Test.YtcdnlghlbljopaaDoorAmMach
namespace Go.AM
open Go
set_option linter.unusedVariables false
set_option linter.unusedSimpArgs false
inductive PutKind where
  | same
  | clash (o : ByteArray)
  | full
  | put
/-- What becomes of a text that is put. -/
def putKind (w : Int) (l : List ByteArray) (t : ByteArray) : PutKind :=
  match getR w (sumS t w) l with
  | some o => if o = t then .same else .clash o
  | none => if 5000 ≤ l.length then .full else .put
def insR' (w : Int) (l : List ByteArray) (t : ByteArray) : List ByteArray := l.take (plc w (sumS t w) l) ++ t :: l.drop (plc w (sumS t w) l)
def zeroSt : TStore := (0, [], [])
/-- The store after a text was put, or why not. -/
def putR (x : TStore) (t : ByteArray) : TKept :=
  match putKind x.1 x.2.1 t with
  | .same => (0, x, ⟨#[]⟩, ⟨#[]⟩)
  | .clash o => (2, zeroSt, o, t)
  | .full => (3, zeroSt, ⟨#[]⟩, ⟨#[]⟩)
  | .put => (0, (x.1, insR' x.1 x.2.1 t, x.2.2), ⟨#[]⟩, ⟨#[]⟩)
def putT (x : TStore) (t : ByteArray) : TKept := if ¬ StoreOk x ∨ 2002 < t.size then (1, zeroSt, ⟨#[]⟩, ⟨#[]⟩) else putR x t
theorem szL_app {α : Type} (f : α → Nat) (l k : List α) : szL f (l ++ k) = szL f l + szL f k := by
  induction l with
  | nil => simp [szL]
  | cons x l ih => rw [List.cons_append, szL_cons', szL_cons', ih]; omega
theorem insR'_sz (w : Int) (l : List ByteArray) (t : ByteArray) : szL Mk.sz (insR' w l t) = szL Mk.sz l + 1 + t.size := by
  unfold insR'
  have h := szL_app Mk.sz (l.take (plc w (sumS t w) l)) (l.drop (plc w (sumS t w) l))
  rw [List.take_append_drop] at h
  rw [szL_app, szL_cons', h]
  show _ + (1 + t.size + _) = _
  omega
theorem getR_mem {w : Int} {s : ByteArray} {l : List ByteArray} {o : ByteArray} (h : getR w s l = some o) : o ∈ l ∧ sumS o w = s := by
  unfold getR at h
  cases hp : l[plc w s l]? with
  | none => rw [hp] at h; cases h
  | some t =>
    rw [hp] at h
    simp only [Option.bind_some] at h
    split at h
    · cases h; exact ⟨List.mem_of_getElem? hp, by assumption⟩
    · cases h
theorem szL_mem {l : List ByteArray} {o : ByteArray} (h : o ∈ l) : o.size ≤ szL Mk.sz l := by
  obtain ⟨i, hi, rfl⟩ := List.mem_iff_getElem.1 h
  have := szL_get Mk.sz l i hi
  have e : (Mk.sz l[i] : Nat) = l[i].size := rfl
  omega
theorem putR_sz (x : TStore) (t : ByteArray) : Mk.sz (putR x t) ≤ Mk.sz x + 1 + t.size := by
  have e1 : Mk.sz x = 0 + (szL Mk.sz x.2.1 + szL Mk.sz x.2.2) := rfl
  have e0 : Mk.sz zeroSt = 0 := rfl
  have ee : (⟨#[]⟩ : ByteArray).size = 0 := rfl
  unfold putR
  cases h : putKind x.1 x.2.1 t with
  | same => show 0 + (Mk.sz x + (_ + _)) ≤ _; show 0 + (Mk.sz x + (0 + 0)) ≤ _; omega
  | clash o =>
    have ho : o ∈ x.2.1 := by
      unfold putKind at h
      cases hg : getR x.1 (sumS t x.1) x.2.1 with
      | none => rw [hg] at h; simp only at h; split at h <;> cases h
      | some o' =>
        rw [hg] at h
        simp only at h
        split at h
        · cases h
        · cases h; exact (getR_mem hg).1
    have := szL_mem ho
    show 0 + (0 + (o.size + t.size)) ≤ _
    omega
  | full => show 0 + (0 + (0 + 0)) ≤ _; omega
  | put =>
    have := insR'_sz x.1 x.2.1 t
    show 0 + ((0 + (szL Mk.sz (insR' x.1 x.2.1 t) + szL Mk.sz x.2.2)) + (0 + 0)) ≤ _
    omega
theorem putT_sz (x : TStore) (t : ByteArray) : Mk.sz (putT x t) ≤ Mk.sz x + 1 + t.size := by
  unfold putT
  split
  · show 0 + (0 + (0 + 0)) ≤ _; omega
  · exact putR_sz x t
def putCode : PutKind → Int
  | .clash _ => 2
  | .full => 3
  | _ => 0
def putOther : PutKind → ByteArray
  | .clash o => o
  | _ => ⟨#[]⟩
/-- The texts behind a put. -/
def putTexts (w : Int) (l : List ByteArray) (t : ByteArray) : List ByteArray := match putKind w l t with | .put => insR' w l t | _ => l
theorem putKind_clash {w : Int} {l : List ByteArray} {t : ByteArray} (h : plc w (sumS t w) l < l.length) (e : sumS l[plc w (sumS t w) l] w = sumS t w) (k : ¬ l[plc w (sumS t w) l] = t) : putKind w l t = .clash l[plc w (sumS t w) l] := by
  unfold putKind; rw [getR_some h e]; simp only [if_neg k]
theorem putKind_same {w : Int} {l : List ByteArray} {t : ByteArray} (h : plc w (sumS t w) l < l.length) (e : sumS l[plc w (sumS t w) l] w = sumS t w) (k : l[plc w (sumS t w) l] = t) : putKind w l t = .same := by
  unfold putKind; rw [getR_some h e]; simp only [if_pos k]
theorem putKind_full {w : Int} {l : List ByteArray} {t : ByteArray} (h : getR w (sumS t w) l = none) (k : 5000 ≤ l.length) : putKind w l t = .full := by
  unfold putKind; rw [h]; simp only [if_pos k]
theorem putKind_put {w : Int} {l : List ByteArray} {t : ByteArray} (h : getR w (sumS t w) l = none) (k : ¬ 5000 ≤ l.length) : putKind w l t = .put := by
  unfold putKind; rw [h]; simp only [if_neg k]
theorem getR_is {w : Int} {s : ByteArray} {l : List ByteArray} (h : (getR w s l).isSome = true) : ∃ hp : plc w s l < l.length, sumS l[plc w s l] w = s := by
  by_cases hp : plc w s l < l.length
  · by_cases e : sumS l[plc w s l] w = s
    · exact ⟨hp, e⟩
    · rw [getR_ne hp e] at h; cases h
  · rw [getR_end hp] at h; cases h
theorem mem_szR {l : List TRecord} {r : TRecord} (h : r ∈ l) : r.1.length + r.2.1.length ≤ szL Mk.sz l := by
  obtain ⟨i, hi, rfl⟩ := List.mem_iff_getElem.1 h
  have h1 := szL_get Mk.sz l i hi
  have h2 := szL_length Mk.sz l[i].1
  have h3 := szL_length Mk.sz l[i].2.1
  have e : Mk.sz l[i] = szL Mk.sz l[i].1 + (szL Mk.sz l[i].2.1 + l[i].2.2.size) := rfl
  omega
end Go.AM
