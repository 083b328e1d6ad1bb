/- Plain: the flags of a space. -/
import Derived.Test.YtcdnlghlbljopaaDoorAmCut
namespace Go.AM
open Go
set_option linter.unusedVariables false
set_option linter.unusedSimpArgs false
section
variable {P : Program} {ro : Nat} {X : FuncId → List Value → AH → ARes → AH → Prop}
theorem skipThen {b : Code} {Q : Post} {e : Env} {A : AH} (h : RunC P ro X b Q e A) : RunC P ro X .skip (thenQ (RunC P ro X b Q) Q) e A := h
theorem seqBlock {id : Nat} {a b : Code} {Q : Post} {e : Env} {A : AH} (h : RunC P ro X a (blockQ id (thenQ (RunC P ro X b Q) Q)) e A) : RunC P ro X (.seq (.block id a) b) Q e A := h
end
def flagsOf (b2 b3 b4 b5 b6 b7 : Bool) : List Bool := [false, false, b2, b3, b4, b5, b6, b7]
theorem flag_at (b2 b3 b4 b5 b6 b7 : Bool) (i : Nat) (hi : i < 8) : ([.bool false, .bool false, .bool b2, .bool b3, .bool b4, .bool b5, .bool b6, .bool b7] : List Value)[i]? = some (.bool ((flagsOf b2 b3 b4 b5 b6 b7).getD i false)) := by
  match i, hi with
  | 0, _ => rfl
  | 1, _ => rfl
  | 2, _ => rfl
  | 3, _ => rfl
  | 4, _ => rfl
  | 5, _ => rfl
  | 6, _ => rfl
  | 7, _ => rfl
  | n + 8, h => exact absurd h (by omega)
theorem flag_code {x : TSpace} {b2 b3 b4 b5 b6 b7 : Bool} (q : ¬ 200 < x.1.length + x.2.length) (i2 : b2 = false ↔ (∀ y ∈ x.1, NameOk y.1) ∧ ∀ y ∈ x.2, NameOk y.1) (i3 : b3 = false ↔ Asc (x.1.map (·.1))) (i4 : b4 = false ↔ Asc (x.2.map (·.1)))
    (i5 : b5 = false ↔ ∀ y ∈ x.2, ∀ z ∈ x.1, z.1 ≠ y.1) (i6 : b6 = false ↔ ∀ y ∈ x.1, y.2.size ≤ 2000) (i7 : b7 = false ↔ ∀ y ∈ x.2, ProgOk y.2) :
    (∀ i : Nat, i < 8 → (flagsOf b2 b3 b4 b5 b6 b7).getD i false = true → (∀ j, j < i → (flagsOf b2 b3 b4 b5 b6 b7).getD j false = false) → spaceCode x = i) ∧
    ((∀ j, j < 8 → (flagsOf b2 b3 b4 b5 b6 b7).getD j false = false) → spaceCode x = 0) := by
  have no : ∀ {b : Bool} {p : Prop}, (b = false ↔ p) → b = true → ¬ p := fun h hb hp => by rw [h.2 hp] at hb; cases hb
  have g : ∀ j, (flagsOf b2 b3 b4 b5 b6 b7).getD j false = match j with | 2 => b2 | 3 => b3 | 4 => b4 | 5 => b5 | 6 => b6 | 7 => b7 | _ => false := fun j => by
    match j with
    | 0 => rfl
    | 1 => rfl
    | 2 => rfl
    | 3 => rfl
    | 4 => rfl
    | 5 => rfl
    | 6 => rfl
    | 7 => rfl
    | n + 8 => rfl
  refine ⟨fun i hi ht hf => ?_, fun hf => ?_⟩
  · rw [g] at ht
    match i, hi with
    | 0, _ => cases ht
    | 1, _ => cases ht
    | 2, _ => rw [spaceCode, if_neg q, if_pos (no i2 ht)]; rfl
    | 3, _ =>
      have k2 := i2.1 (by have := hf 2 (by omega); rwa [g] at this)
      rw [spaceCode, if_neg q, if_neg (fun h => h k2), if_pos (no i3 ht)]; rfl
    | 4, _ =>
      have k2 := i2.1 (by have := hf 2 (by omega); rwa [g] at this)
      have k3 := i3.1 (by have := hf 3 (by omega); rwa [g] at this)
      rw [spaceCode, if_neg q, if_neg (fun h => h k2), if_neg (fun h => h k3), if_pos (no i4 ht)]; rfl
    | 5, _ =>
      have k2 := i2.1 (by have := hf 2 (by omega); rwa [g] at this)
      have k3 := i3.1 (by have := hf 3 (by omega); rwa [g] at this)
      have k4 := i4.1 (by have := hf 4 (by omega); rwa [g] at this)
      rw [spaceCode, if_neg q, if_neg (fun h => h k2), if_neg (fun h => h k3), if_neg (fun h => h k4), if_pos (no i5 ht)]; rfl
    | 6, _ =>
      have k2 := i2.1 (by have := hf 2 (by omega); rwa [g] at this)
      have k3 := i3.1 (by have := hf 3 (by omega); rwa [g] at this)
      have k4 := i4.1 (by have := hf 4 (by omega); rwa [g] at this)
      have k5 := i5.1 (by have := hf 5 (by omega); rwa [g] at this)
      rw [spaceCode, if_neg q, if_neg (fun h => h k2), if_neg (fun h => h k3), if_neg (fun h => h k4), if_neg (fun h => h k5), if_pos (no i6 ht)]; rfl
    | 7, _ =>
      have k2 := i2.1 (by have := hf 2 (by omega); rwa [g] at this)
      have k3 := i3.1 (by have := hf 3 (by omega); rwa [g] at this)
      have k4 := i4.1 (by have := hf 4 (by omega); rwa [g] at this)
      have k5 := i5.1 (by have := hf 5 (by omega); rwa [g] at this)
      have k6 := i6.1 (by have := hf 6 (by omega); rwa [g] at this)
      rw [spaceCode, if_neg q, if_neg (fun h => h k2), if_neg (fun h => h k3), if_neg (fun h => h k4), if_neg (fun h => h k5), if_neg (fun h => h k6), if_pos (no i7 ht)]; rfl
    | n + 8, h => exact absurd h (by omega)
  · have k2 := i2.1 (by have := hf 2 (by omega); rwa [g] at this)
    have k3 := i3.1 (by have := hf 3 (by omega); rwa [g] at this)
    have k4 := i4.1 (by have := hf 4 (by omega); rwa [g] at this)
    have k5 := i5.1 (by have := hf 5 (by omega); rwa [g] at this)
    have k6 := i6.1 (by have := hf 6 (by omega); rwa [g] at this)
    have k7 := i7.1 (by have := hf 7 (by omega); rwa [g] at this)
    rw [spaceCode, if_neg q, if_neg (fun h => h k2), if_neg (fun h => h k3), if_neg (fun h => h k4), if_neg (fun h => h k5), if_neg (fun h => h k6), if_neg (fun h => h k7)]
end Go.AM
