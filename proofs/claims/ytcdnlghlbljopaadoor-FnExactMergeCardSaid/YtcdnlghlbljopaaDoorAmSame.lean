/- Plain: equal instructions, looks, programs, records. -/
import Derived.Test.YtcdnlghlbljopaaDoorAmSlice
namespace Go.AM
open Go
set_option linter.unusedVariables false
set_option linter.unusedSimpArgs false
theorem ne_sbs {P : Program} {t t1 t2 t3 : TypeId} {n1 n2 n3 g1 g2 g3 p1 p2 p3 : String} {e1 e2 e3 : Bool} {o1 o2 o3 : Nat}
    (hu : P.underlying t = some (.struct #[⟨n1, t1, 0, e1, g1, p1, o1⟩, ⟨n2, t2, 1, e2, g2, p2, o2⟩, ⟨n3, t3, 2, e3, g3, p3, o3⟩]))
    (h1 : n1 ≠ "_") (h2 : n2 ≠ "_") (h3 : n3 ≠ "_") (k1 : tKind P t1 = some .str) (k2 : tKind P t2 = some .bool) (k3 : tKind P t3 = some .str)
    (hg : (P.stoodInHeld t || P.eqGuardType P.depth t) = false) (x y : TGlance) :
    aBin P .neq t (.agg #[.string x.1, .bool x.2.1, .string x.2.2]) (.agg #[.string y.1, .bool y.2.1, .string y.2.2]) = some (.bool (!decide (x = y))) := by
  have h := eq_sbs hu h1 h2 h3 k1 k2 k3 hg x y
  have e : (x = y) ↔ (x.1 = y.1 ∧ x.2.1 = y.2.1 ∧ x.2.2 = y.2.2) := by
    obtain ⟨a, b, c⟩ := x; obtain ⟨a', b', c'⟩ := y; simp [Prod.mk.injEq]
  rw [show decide (x = y) = decide (x.1 = y.1 ∧ x.2.1 = y.2.1 ∧ x.2.2 = y.2.2) from decide_eq_decide.2 e]
  simp only [aBin] at h ⊢
  cases hq : aEq P t (.agg #[.string x.1, .bool x.2.1, .string x.2.2]) (.agg #[.string y.1, .bool y.2.1, .string y.2.2]) with
  | none => rw [hq] at h; cases h
  | some b => rw [hq] at h; simp only [Option.map_some, Option.some.injEq, Value.bool.injEq] at h ⊢; rw [h]
theorem ne_isi {P : Program} {t t1 t2 t3 : TypeId} {n1 n2 n3 g1 g2 g3 p1 p2 p3 : String} {e1 e2 e3 : Bool} {o1 o2 o3 : Nat}
    (hu : P.underlying t = some (.struct #[⟨n1, t1, 0, e1, g1, p1, o1⟩, ⟨n2, t2, 1, e2, g2, p2, o2⟩, ⟨n3, t3, 2, e3, g3, p3, o3⟩]))
    (h1 : n1 ≠ "_") (h2 : n2 ≠ "_") (h3 : n3 ≠ "_") (k1 : tKind P t1 = some (.int .i64)) (k2 : tKind P t2 = some .str) (k3 : tKind P t3 = some (.int .i64))
    (hg : (P.stoodInHeld t || P.eqGuardType P.depth t) = false) (x y : TIns) :
    aBin P .neq t (.agg #[.int .i64 x.1, .string x.2.1, .int .i64 x.2.2]) (.agg #[.int .i64 y.1, .string y.2.1, .int .i64 y.2.2]) = some (.bool (!decide (x = y))) := by
  have ht : tKind P t = some .struct := by unfold tKind; rw [hu]; rfl
  have e : (x = y) ↔ (x.1 = y.1 ∧ x.2.1 = y.2.1 ∧ x.2.2 = y.2.2) := by
    obtain ⟨a, b, c⟩ := x; obtain ⟨a', b', c'⟩ := y; simp [Prod.mk.injEq]
  rw [show decide (x = y) = decide (x.1 = y.1 ∧ x.2.1 = y.2.1 ∧ x.2.2 = y.2.2) from decide_eq_decide.2 e]
  simp only [aBin, aEq, ht, hu, hg, aEqFields, h1, h2, h3, k1, k2, k3, str_toList]
  by_cases c1 : x.1 = y.1
  · by_cases c2 : x.2.1 = y.2.1
    · by_cases c3 : x.2.2 = y.2.2
      · simp [c1, c2, c3]
      · simp [c1, c2, c3]
    · simp [c1, c2]
  · simp [c1]
theorem same_end {α : Type} {l k : List α} (hl : l.length = k.length) (h : ∀ j (h1 : j < l.length) (h2 : j < k.length), j < l.length → l[j] = k[j]) : l = k :=
  List.ext_getElem hl fun j h1 h2 => h j h1 h2 h1
theorem same_step {α : Type} {l k : List α} {i : Nat} (h : l.take i = k.take i) (h1 : i < l.length) (h2 : i < k.length) (e : l[i] = k[i]) : l.take (i + 1) = k.take (i + 1) := by
  rw [List.take_succ_eq_append_getElem h1, List.take_succ_eq_append_getElem h2, h, e]
theorem same_ne {α : Type} {l k : List α} {i : Nat} (h1 : i < l.length) (h2 : i < k.length) (e : ¬ l[i] = k[i]) : l ≠ k := fun h => e (by subst h; rfl)
theorem rec_eq {x y : TRecord} : x = y ↔ x.2.2 = y.2.2 ∧ x.2.1 = y.2.1 ∧ x.1 = y.1 := by
  obtain ⟨a, b, c⟩ := x; obtain ⟨a', b', c'⟩ := y
  simp only [Prod.mk.injEq]
  exact ⟨fun ⟨h1, h2, h3⟩ => ⟨h3, h2, h1⟩, fun ⟨h1, h2, h3⟩ => ⟨h3, h2, h1⟩⟩
end Go.AM
