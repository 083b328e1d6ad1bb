/- The abstract machine in use: all equations under two names. -/
import Derived.Test.YtmelgjblkmbhjaaGreatDoorAmM
namespace Go.AM
open Go
set_option linter.unusedVariables false
set_option linter.unusedSimpArgs false
/-- Plain logic, numbers and lists. -/
theorem amS :
    (∀ {α : Type} (a b : α), (if True then a else b) = a) ∧ (∀ {α : Type} (a b : α), (if False then a else b) = b) ∧ (∀ p : Prop, (p ∧ True) = p) ∧ (∀ p : Prop, (True ∧ p) = p) ∧ (∀ p : Prop, (p ∧ p) = p) ∧
    (∀ h : Decidable True, @decide True h = true) ∧ (∀ h : Decidable False, @decide False h = false) ∧ (∀ p : Prop, (p ∨ False) = p) ∧ (∀ p : Prop, (False ∨ p) = p) ∧ (∀ p : Prop, (p ∨ True) = True) ∧ (∀ p : Prop, (True ∨ p) = True) ∧
    (∀ p : Prop, (p ∧ False) = False) ∧ (∀ p : Prop, (False ∧ p) = False) ∧ ((¬ False) = True) ∧ ((¬ True) = False) ∧ (∀ {α : Type} (a b : α), (a ≠ b) = ¬ (a = b)) ∧
    (∀ b : Bool, (b || false) = b) ∧ (∀ b : Bool, (b || true) = true) ∧ (∀ b : Bool, (true || b) = true) ∧ (∀ b : Bool, (false || b) = b) ∧ ((!true) = false) ∧ ((!false) = true) ∧ (∀ b : Bool, (b == true) = b) ∧ (∀ b : Bool, (b == false) = !b) ∧
    (∀ {α : Type} (a d : α) (l : List α), (a :: l).getD 0 d = a) ∧ (∀ {α : Type} (a d : α) (l : List α) (n : Nat), (a :: l).getD (n + 1) d = l.getD n d) ∧ (∀ a : Nat, List.elem a [] = false) ∧ (∀ (a b : Nat) (l : List Nat), List.elem a (b :: l) = (a == b || l.elem a)) ∧
    (∀ n : Nat, n * 1 = n) ∧ (∀ n : Nat, n + 0 = n) ∧ (∀ n : Nat, 0 + n = n) ∧ (∀ n : Nat, 0 * n = 0) ∧ (∀ n : Nat, ((n : Int)).toNat = n) ∧ (∀ n : Nat, n ≤ n ↔ True) ∧
    (∀ {α β : Type} (a : α) (f : α → Option β), (some a).bind f = f a) ∧ (∀ {α β : Type} (a : α) (f : α → β), (some a).map f = some (f a)) ∧ (∀ {α β : Type} (f : α → β), (none : Option α).map f = none) ∧ (∀ {α β : Type} (f : α → Option β), (none : Option α).bind f = none) ∧
    (∀ {α : Type} (a : α) (l : List α), (a :: l).length = l.length + 1) ∧ (∀ {α : Type}, ([] : List α).length = 0) ∧ (∀ {α : Type} (l : List α), l.drop 0 = l) ∧ (∀ {α : Type} (a : α) (l : List α) (n : Nat), (a :: l).drop (n + 1) = l.drop n) ∧
    (∀ {α : Type} (l : List α), l.take 0 = []) ∧ (∀ {α : Type} (a : α) (l : List α) (n : Nat), (a :: l).take (n + 1) = a :: l.take n) ∧ (∀ {α : Type} (a : α) (l : List α), (a :: l)[0]? = some a) ∧ (∀ {α : Type} (a : α) (l : List α) (n : Nat), (a :: l)[n + 1]? = l[n]?) ∧
    (∀ {α : Type} (a b : α) (l : List α), (a :: l).set 0 b = b :: l) ∧ (∀ {α : Type} (a b : α) (l : List α) (n : Nat), (a :: l).set (n + 1) b = a :: l.set n b) ∧ (∀ {α β : Type} (f : α → β) (a : α) (l : List α), (a :: l).map f = f a :: l.map f) ∧ (∀ {α β : Type} (f : α → β), ([] : List α).map f = []) ∧
    (∀ {α : Type} (l : List α), [] ++ l = l) ∧ (∀ {α : Type} (l : List α), l ++ [] = l) ∧ (∀ {α : Type} (a : α) (l k : List α), (a :: l) ++ k = a :: (l ++ k)) ∧ (∀ {α : Type}, (#[] : Array α).toList = []) ∧ (∀ {α : Type} (l : List α), l.toArray.toList = l) ∧
    ((false = true) = False) ∧ ((true = false) = False) ∧ (∀ a b : Int, (a == b) = decide (a = b)) ∧ (∀ a b : Int, (a != b) = !decide (a = b)) ∧ (∀ n : Nat, (n == n) = true) ∧ (∀ {α : Type} (a : α), (a = a) = True) ∧ (∀ n : Int, n + 0 = n) ∧ (∀ n : Int, 0 + n = n) ∧ (∀ n : Int, (n ≤ n) = True) ∧ (((0 : Nat) : Int) = 0) ∧
    (∀ {α : Type} (l : List α) (i : Nat) (v : α), (l.set i v).length = l.length) ∧ (∀ b : Bool, (b == b) = true) ∧ (∀ w : Bool, guardB w undef = false) ∧ (∀ {α : Type}, ([] : List (List α)).flatten = []) ∧ (∀ {α : Type} (l : List α) (k : List (List α)), (l :: k).flatten = l ++ k.flatten) :=
  ⟨fun _ _ => if_pos trivial, fun _ _ => if_neg not_false, fun _ => and_true _, fun _ => true_and _, fun _ => and_self _, fun h => by simp, fun h => by simp, fun _ => or_false _, fun _ => false_or _, fun _ => or_true _, fun _ => true_or _,
    fun _ => and_false _, fun _ => false_and _, not_false_eq_true, not_true_eq_false, fun _ _ => rfl, Bool.or_false, Bool.or_true, Bool.true_or, Bool.false_or, rfl, rfl, fun b => by cases b <;> rfl, fun b => by cases b <;> rfl,
    fun _ _ _ => rfl, fun _ _ _ _ => rfl, fun _ => rfl, fun a b l => List.elem_cons, Nat.mul_one, Nat.add_zero, Nat.zero_add, Nat.zero_mul, Int.toNat_natCast, fun _ => by simp, fun _ _ => rfl, fun _ _ => rfl, fun _ => rfl, fun _ => rfl,
    fun _ _ => rfl, rfl, fun _ => rfl, fun _ _ _ => rfl, fun _ => rfl, fun _ _ _ => rfl, fun _ _ => rfl, fun _ _ _ => rfl, fun _ _ _ => rfl, fun _ _ _ _ => rfl, fun _ _ _ => rfl, fun _ => rfl,
    fun _ => rfl, List.append_nil, fun _ _ _ => rfl, rfl, fun _ => rfl, by simp, by simp, fun a b => by by_cases h : a = b <;> simp [h], fun a b => by by_cases h : a = b <;> simp [h], fun _ => by simp, fun _ => by simp, Int.add_zero, Int.zero_add, fun _ => by simp, rfl,
    fun _ _ _ => by simp, fun b => by cases b <;> rfl, fun _ => rfl, rfl, fun _ _ => rfl⟩
/-- The machine. -/
theorem amR (P : Program) (ro : Nat) (X : FuncId → List Value → AH → ARes → AH → Prop) : type_of% (And.intro (amC P ro X) (And.intro amV (And.intro (amO P ro X) (And.intro amK (And.intro (amB P) (And.intro (amG P ro X) (And.intro amH (And.intro amQ (And.intro amL (And.intro (amN P) (amTA P ro X))))))))))) :=
  And.intro (amC P ro X) (And.intro amV (And.intro (amO P ro X) (And.intro amK (And.intro (amB P) (And.intro (amG P ro X) (And.intro amH (And.intro amQ (And.intro amL (And.intro (amN P) (amTA P ro X))))))))))
end Go.AM
