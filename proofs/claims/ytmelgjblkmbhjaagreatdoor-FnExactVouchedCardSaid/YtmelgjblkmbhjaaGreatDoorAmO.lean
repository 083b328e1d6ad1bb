/- The program's data: how each kind lies in cells; what the exact laws measure and mark. -/
import Derived.Test.YtmelgjblkmbhjaaGreatDoorAmN
namespace Go.AM
open Go
set_option linter.unusedVariables false
set_option linter.unusedSimpArgs false
abbrev TIns := Int × ByteArray × Int
abbrev TProgram := List TIns
abbrev TFault := Int × Int
abbrev TReply := Bool × Int × ByteArray
abbrev TTurn := Bool × Int × ByteArray × Bool × ByteArray × Int
abbrev TSource := ByteArray × ByteArray
abbrev TTarget := ByteArray × TProgram
abbrev TSpace := List TSource × List TTarget
abbrev TResult := Int × ByteArray × List ByteArray
abbrev TSeen := ByteArray × Bool × ByteArray
abbrev TGlance := ByteArray × Bool × ByteArray
abbrev TRecord := TProgram × List TGlance × ByteArray
abbrev TStore := Int × List ByteArray × List TRecord
abbrev TKept := Int × TStore × ByteArray × ByteArray
abbrev TBuilt := Int × ByteArray × List ByteArray × TStore × List ByteArray × List ByteArray × ByteArray × ByteArray
/-- What the laws measure and mark. -/
class Mk (α : Type) where
  sz : α → Nat
  nm : α → Nat
  mrk : Int → α → α
  nm_mk : ∀ k x, nm (mrk k x) = nm x
  bd : α → Prop
instance : Mk Int := ⟨fun _ => 0, fun _ => 1, fun k _ => k, fun _ _ => rfl, fun _ => True⟩
instance : Mk Bool := ⟨fun _ => 0, fun _ => 1, fun k _ => decide (k % 3 = 0), fun _ _ => rfl, fun _ => True⟩
instance : Mk ByteArray := ⟨fun s => s.size, fun _ => 1, fun k _ => mkText k, fun _ _ => rfl, fun s => s.size < 281474976710656⟩
instance {α β : Type} [Mk α] [Mk β] : Mk (α × β) := ⟨fun x => Mk.sz x.1 + Mk.sz x.2, fun x => Mk.nm x.1 + Mk.nm x.2, fun k x => (Mk.mrk k x.1, Mk.mrk (k + Mk.nm x.1) x.2), fun k x => by simp [Mk.nm_mk], fun x => Mk.bd x.1 ∧ Mk.bd x.2⟩
def nmL {α : Type} [Mk α] (l : List α) : Nat := (l.map Mk.nm).sum
def mkL {α : Type} [Mk α] (k : Int) : List α → List α
  | [] => []
  | x :: l => Mk.mrk k x :: mkL (k + Mk.nm x) l
section
variable {α : Type} [Mk α]
theorem nmL_mkL : ∀ (k : Int) (l : List α), nmL (mkL k l) = nmL l
  | _, [] => rfl
  | k, x :: l => by
    have := nmL_mkL (k + Mk.nm x) l
    simp only [nmL, mkL, List.map_cons, List.sum_cons, Mk.nm_mk] at this ⊢
    rw [this]
instance : Mk (List α) := ⟨szL Mk.sz, nmL, mkL, nmL_mkL, fun l => l.length < 281474976710656 ∧ ∀ x ∈ l, Mk.bd x⟩
theorem mkL_length : ∀ (k : Int) (l : List α), (mkL k l).length = l.length
  | _, [] => rfl
  | k, x :: l => by simp [mkL, mkL_length]
theorem nmL_take_succ (l : List α) (i : Nat) (h : i < l.length) : nmL (l.take (i + 1)) = nmL (l.take i) + Mk.nm l[i] := by
  rw [List.take_succ_eq_append_getElem h]
  simp only [nmL, List.map_append, List.sum_append, List.map_cons, List.map_nil, List.sum_cons, List.sum_nil, Nat.add_zero]
theorem nmL_take_le (l : List α) (i : Nat) : nmL (l.take i) ≤ nmL l := by
  have : nmL l = nmL (l.take i) + nmL (l.drop i) := by
    have h2 : nmL (l.take i ++ l.drop i) = nmL (l.take i) + nmL (l.drop i) := by simp only [nmL, List.map_append, List.sum_append]
    rwa [List.take_append_drop] at h2
  omega
theorem mkL_take_succ : ∀ (k : Int) (l : List α) (i : Nat) (h : i < l.length), mkL k (l.take (i + 1)) = mkL k (l.take i) ++ [Mk.mrk (k + nmL (l.take i)) l[i]]
  | k, x :: l, 0, _ => by simp [mkL, nmL]
  | k, x :: l, i + 1, h => by
    have := mkL_take_succ (k + Mk.nm x) l i (by simpa using h)
    simp only [List.take_succ_cons, mkL, this, List.cons_append, List.getElem_cons_succ]
    congr 4
    simp [nmL]
    omega
theorem mkL_get : ∀ (k : Int) (l : List α) (i : Nat) (h : i < (mkL k l).length), (mkL k l)[i] = Mk.mrk (k + nmL (l.take i)) (l[i]'(by rwa [mkL_length] at h))
  | k, x :: l, 0, _ => by simp [mkL, nmL]
  | k, x :: l, i + 1, h => by
    have := mkL_get (k + Mk.nm x) l i (by simpa [mkL] using h)
    simp only [mkL, List.getElem_cons_succ, this]
    congr 1
    simp [nmL]
    omega
omit [Mk α] in
theorem szL_length (f : α → Nat) (l : List α) : l.length ≤ szL f l := by unfold szL; omega
omit [Mk α] in
theorem szL_get (f : α → Nat) (l : List α) (i : Nat) (h : i < l.length) : f l[i] + l.length ≤ szL f l := by
  have h1 := szL_take_succ f l i h
  have h2 := szL_take_le f l (i + 1)
  have h3 : (l.take i).length ≤ szL f (l.take i) := szL_length _ _
  rw [List.length_take, Nat.min_eq_left (by omega)] at h3
  omega
theorem nmL_le (c : Nat) (l : List α) (h : ∀ x : α, Mk.nm x ≤ c + c * Mk.sz x) : nmL l ≤ c * szL Mk.sz l := by
  induction l with
  | nil => simp [nmL]
  | cons x l ih =>
    have := h x
    have e1 : nmL (x :: l) = Mk.nm x + nmL l := by simp [nmL]
    have e2 : szL Mk.sz (x :: l) = 1 + Mk.sz x + szL Mk.sz l := by simp [szL]; omega
    rw [e1, e2, Nat.mul_add, Nat.mul_add]
    omega
end
theorem rep_Ins {A : AH} {x : TIns} {cs : List Value} {F : List Nat} : Dat.rep A x cs F ↔ cs = [.int .i64 x.1, .string x.2.1, .int .i64 x.2.2] ∧ F = [] ∧ x.2.1.size < BIG := by
  constructor
  · rintro ⟨_, _, _, _, rfl, rfl, ⟨rfl, rfl⟩, ⟨_, _, _, _, rfl, rfl, ⟨rfl, rfl, z1⟩, ⟨rfl, rfl⟩⟩⟩
    exact ⟨rfl, by simp, z1⟩
  · rintro ⟨rfl, hF, z1⟩
    exact ⟨[.int .i64 x.1], [.string x.2.1, .int .i64 x.2.2], [], [], rfl, by simp [hF], ⟨rfl, rfl⟩, ⟨[.string x.2.1], [.int .i64 x.2.2], [], [], rfl, by simp, ⟨rfl, rfl, z1⟩, ⟨rfl, rfl⟩⟩⟩
theorem rep_Program {A : AH} {x : TProgram} {cs : List Value} {F : List Nat} : Dat.rep A x cs F ↔ ∃ (s1 : Sl) (G1 : List Nat), cs = [s1.v] ∧ F = G1 ∧ SlR A s1 x G1 := by
  constructor
  · rintro ⟨s1, rfl, h1⟩
    exact ⟨s1, _, rfl, by simp, h1⟩
  · rintro ⟨s1, G1, rfl, rfl, h1⟩
    exact ⟨s1, rfl, h1⟩
theorem rep_Fault {A : AH} {x : TFault} {cs : List Value} {F : List Nat} : Dat.rep A x cs F ↔ cs = [.int .i64 x.1, .int .i64 x.2] ∧ F = [] ∧ True := by
  constructor
  · rintro ⟨_, _, _, _, rfl, rfl, ⟨rfl, rfl⟩, ⟨rfl, rfl⟩⟩
    exact ⟨rfl, by simp, trivial⟩
  · rintro ⟨rfl, hF, _⟩
    exact ⟨[.int .i64 x.1], [.int .i64 x.2], [], [], rfl, by simp [hF], ⟨rfl, rfl⟩, ⟨rfl, rfl⟩⟩
theorem rep_Reply {A : AH} {x : TReply} {cs : List Value} {F : List Nat} : Dat.rep A x cs F ↔ cs = [.bool x.1, .int .i64 x.2.1, .string x.2.2] ∧ F = [] ∧ x.2.2.size < BIG := by
  constructor
  · rintro ⟨_, _, _, _, rfl, rfl, ⟨rfl, rfl⟩, ⟨_, _, _, _, rfl, rfl, ⟨rfl, rfl⟩, ⟨rfl, rfl, z1⟩⟩⟩
    exact ⟨rfl, by simp, z1⟩
  · rintro ⟨rfl, hF, z1⟩
    exact ⟨[.bool x.1], [.int .i64 x.2.1, .string x.2.2], [], [], rfl, by simp [hF], ⟨rfl, rfl⟩, ⟨[.int .i64 x.2.1], [.string x.2.2], [], [], rfl, by simp, ⟨rfl, rfl⟩, ⟨rfl, rfl, z1⟩⟩⟩
theorem rep_Turn {A : AH} {x : TTurn} {cs : List Value} {F : List Nat} : Dat.rep A x cs F ↔ cs = [.bool x.1, .int .i64 x.2.1, .string x.2.2.1, .bool x.2.2.2.1, .string x.2.2.2.2.1, .int .i64 x.2.2.2.2.2] ∧ F = [] ∧ x.2.2.1.size < BIG ∧ x.2.2.2.2.1.size < BIG := by
  constructor
  · rintro ⟨_, _, _, _, rfl, rfl, ⟨rfl, rfl⟩, ⟨_, _, _, _, rfl, rfl, ⟨rfl, rfl⟩, ⟨_, _, _, _, rfl, rfl, ⟨rfl, rfl, z1⟩, ⟨_, _, _, _, rfl, rfl, ⟨rfl, rfl⟩, ⟨_, _, _, _, rfl, rfl, ⟨rfl, rfl, z2⟩, ⟨rfl, rfl⟩⟩⟩⟩⟩⟩
    exact ⟨rfl, by simp, z1, z2⟩
  · rintro ⟨rfl, hF, z1, z2⟩
    exact ⟨[.bool x.1], [.int .i64 x.2.1, .string x.2.2.1, .bool x.2.2.2.1, .string x.2.2.2.2.1, .int .i64 x.2.2.2.2.2], [], [], rfl, by simp [hF], ⟨rfl, rfl⟩, ⟨[.int .i64 x.2.1], [.string x.2.2.1, .bool x.2.2.2.1, .string x.2.2.2.2.1, .int .i64 x.2.2.2.2.2], [], [], rfl, by simp, ⟨rfl, rfl⟩, ⟨[.string x.2.2.1], [.bool x.2.2.2.1, .string x.2.2.2.2.1, .int .i64 x.2.2.2.2.2], [], [], rfl, by simp, ⟨rfl, rfl, z1⟩, ⟨[.bool x.2.2.2.1], [.string x.2.2.2.2.1, .int .i64 x.2.2.2.2.2], [], [], rfl, by simp, ⟨rfl, rfl⟩, ⟨[.string x.2.2.2.2.1], [.int .i64 x.2.2.2.2.2], [], [], rfl, by simp, ⟨rfl, rfl, z2⟩, ⟨rfl, rfl⟩⟩⟩⟩⟩⟩
theorem rep_Source {A : AH} {x : TSource} {cs : List Value} {F : List Nat} : Dat.rep A x cs F ↔ cs = [.string x.1, .string x.2] ∧ F = [] ∧ x.1.size < BIG ∧ x.2.size < BIG := by
  constructor
  · rintro ⟨_, _, _, _, rfl, rfl, ⟨rfl, rfl, z1⟩, ⟨rfl, rfl, z2⟩⟩
    exact ⟨rfl, by simp, z1, z2⟩
  · rintro ⟨rfl, hF, z1, z2⟩
    exact ⟨[.string x.1], [.string x.2], [], [], rfl, by simp [hF], ⟨rfl, rfl, z1⟩, ⟨rfl, rfl, z2⟩⟩
theorem rep_Target {A : AH} {x : TTarget} {cs : List Value} {F : List Nat} : Dat.rep A x cs F ↔ ∃ (s1 : Sl) (G1 : List Nat), cs = [.string x.1, s1.v] ∧ F = G1 ∧ x.1.size < BIG ∧ SlR A s1 x.2 G1 := by
  constructor
  · rintro ⟨_, _, _, _, rfl, rfl, ⟨rfl, rfl, z1⟩, ⟨s1, rfl, h1⟩⟩
    exact ⟨s1, _, rfl, by simp, z1, h1⟩
  · rintro ⟨s1, G1, rfl, hF, z1, h1⟩
    exact ⟨[.string x.1], [s1.v], [], (G1), rfl, by simp [hF], ⟨rfl, rfl, z1⟩, ⟨s1, rfl, h1⟩⟩
theorem rep_Space {A : AH} {x : TSpace} {cs : List Value} {F : List Nat} : Dat.rep A x cs F ↔ ∃ (s1 s2 : Sl) (G1 G2 : List Nat), cs = [s1.v, s2.v] ∧ F = G1 ++ (G2) ∧ SlR A s1 x.1 G1 ∧ SlR A s2 x.2 G2 := by
  constructor
  · rintro ⟨_, _, _, _, rfl, rfl, ⟨s1, rfl, h1⟩, ⟨s2, rfl, h2⟩⟩
    exact ⟨s1, s2, _, _, rfl, by simp, h1, h2⟩
  · rintro ⟨s1, s2, G1, G2, rfl, hF, h1, h2⟩
    exact ⟨[s1.v], [s2.v], (G1), (G2), rfl, by simp [hF], ⟨s1, rfl, h1⟩, ⟨s2, rfl, h2⟩⟩
theorem rep_Result {A : AH} {x : TResult} {cs : List Value} {F : List Nat} : Dat.rep A x cs F ↔ ∃ (s1 : Sl) (G1 : List Nat), cs = [.int .i64 x.1, .string x.2.1, s1.v] ∧ F = G1 ∧ x.2.1.size < BIG ∧ SlR A s1 x.2.2 G1 := by
  constructor
  · rintro ⟨_, _, _, _, rfl, rfl, ⟨rfl, rfl⟩, ⟨_, _, _, _, rfl, rfl, ⟨rfl, rfl, z1⟩, ⟨s1, rfl, h1⟩⟩⟩
    exact ⟨s1, _, rfl, by simp, z1, h1⟩
  · rintro ⟨s1, G1, rfl, hF, z1, h1⟩
    exact ⟨[.int .i64 x.1], [.string x.2.1, s1.v], [], (G1), rfl, by simp [hF], ⟨rfl, rfl⟩, ⟨[.string x.2.1], [s1.v], [], (G1), rfl, by simp, ⟨rfl, rfl, z1⟩, ⟨s1, rfl, h1⟩⟩⟩
theorem rep_Seen {A : AH} {x : TSeen} {cs : List Value} {F : List Nat} : Dat.rep A x cs F ↔ cs = [.string x.1, .bool x.2.1, .string x.2.2] ∧ F = [] ∧ x.1.size < BIG ∧ x.2.2.size < BIG := by
  constructor
  · rintro ⟨_, _, _, _, rfl, rfl, ⟨rfl, rfl, z1⟩, ⟨_, _, _, _, rfl, rfl, ⟨rfl, rfl⟩, ⟨rfl, rfl, z2⟩⟩⟩
    exact ⟨rfl, by simp, z1, z2⟩
  · rintro ⟨rfl, hF, z1, z2⟩
    exact ⟨[.string x.1], [.bool x.2.1, .string x.2.2], [], [], rfl, by simp [hF], ⟨rfl, rfl, z1⟩, ⟨[.bool x.2.1], [.string x.2.2], [], [], rfl, by simp, ⟨rfl, rfl⟩, ⟨rfl, rfl, z2⟩⟩⟩
theorem rep_Glance {A : AH} {x : TGlance} {cs : List Value} {F : List Nat} : Dat.rep A x cs F ↔ cs = [.string x.1, .bool x.2.1, .string x.2.2] ∧ F = [] ∧ x.1.size < BIG ∧ x.2.2.size < BIG := by
  constructor
  · rintro ⟨_, _, _, _, rfl, rfl, ⟨rfl, rfl, z1⟩, ⟨_, _, _, _, rfl, rfl, ⟨rfl, rfl⟩, ⟨rfl, rfl, z2⟩⟩⟩
    exact ⟨rfl, by simp, z1, z2⟩
  · rintro ⟨rfl, hF, z1, z2⟩
    exact ⟨[.string x.1], [.bool x.2.1, .string x.2.2], [], [], rfl, by simp [hF], ⟨rfl, rfl, z1⟩, ⟨[.bool x.2.1], [.string x.2.2], [], [], rfl, by simp, ⟨rfl, rfl⟩, ⟨rfl, rfl, z2⟩⟩⟩
theorem rep_Record {A : AH} {x : TRecord} {cs : List Value} {F : List Nat} : Dat.rep A x cs F ↔ ∃ (s1 s2 : Sl) (G1 G2 : List Nat), cs = [s1.v, s2.v, .string x.2.2] ∧ F = G1 ++ (G2) ∧ SlR A s1 x.1 G1 ∧ SlR A s2 x.2.1 G2 ∧ x.2.2.size < BIG := by
  constructor
  · rintro ⟨_, _, _, _, rfl, rfl, ⟨s1, rfl, h1⟩, ⟨_, _, _, _, rfl, rfl, ⟨s2, rfl, h2⟩, ⟨rfl, rfl, z1⟩⟩⟩
    exact ⟨s1, s2, _, _, rfl, by simp, h1, h2, z1⟩
  · rintro ⟨s1, s2, G1, G2, rfl, hF, h1, h2, z1⟩
    exact ⟨[s1.v], [s2.v, .string x.2.2], (G1), (G2), rfl, by simp [hF], ⟨s1, rfl, h1⟩, ⟨[s2.v], [.string x.2.2], (G2), [], rfl, by simp, ⟨s2, rfl, h2⟩, ⟨rfl, rfl, z1⟩⟩⟩
theorem rep_Store {A : AH} {x : TStore} {cs : List Value} {F : List Nat} : Dat.rep A x cs F ↔ ∃ (s1 s2 : Sl) (G1 G2 : List Nat), cs = [.int .i64 x.1, s1.v, s2.v] ∧ F = G1 ++ (G2) ∧ SlR A s1 x.2.1 G1 ∧ SlR A s2 x.2.2 G2 := by
  constructor
  · rintro ⟨_, _, _, _, rfl, rfl, ⟨rfl, rfl⟩, ⟨_, _, _, _, rfl, rfl, ⟨s1, rfl, h1⟩, ⟨s2, rfl, h2⟩⟩⟩
    exact ⟨s1, s2, _, _, rfl, by simp, h1, h2⟩
  · rintro ⟨s1, s2, G1, G2, rfl, hF, h1, h2⟩
    exact ⟨[.int .i64 x.1], [s1.v, s2.v], [], (G1 ++ (G2)), rfl, by simp [hF], ⟨rfl, rfl⟩, ⟨[s1.v], [s2.v], (G1), (G2), rfl, by simp, ⟨s1, rfl, h1⟩, ⟨s2, rfl, h2⟩⟩⟩
theorem rep_Kept {A : AH} {x : TKept} {cs : List Value} {F : List Nat} : Dat.rep A x cs F ↔ ∃ (s1 s2 : Sl) (G1 G2 : List Nat), cs = [.int .i64 x.1, .int .i64 x.2.1.1, s1.v, s2.v, .string x.2.2.1, .string x.2.2.2] ∧ F = G1 ++ (G2) ∧ SlR A s1 x.2.1.2.1 G1 ∧ SlR A s2 x.2.1.2.2 G2 ∧ x.2.2.1.size < BIG ∧ x.2.2.2.size < BIG := by
  constructor
  · rintro ⟨_, _, _, _, rfl, rfl, ⟨rfl, rfl⟩, ⟨_, _, _, _, rfl, rfl, ⟨_, _, _, _, rfl, rfl, ⟨rfl, rfl⟩, ⟨_, _, _, _, rfl, rfl, ⟨s1, rfl, h1⟩, ⟨s2, rfl, h2⟩⟩⟩, ⟨_, _, _, _, rfl, rfl, ⟨rfl, rfl, z1⟩, ⟨rfl, rfl, z2⟩⟩⟩⟩
    exact ⟨s1, s2, _, _, rfl, by simp, h1, h2, z1, z2⟩
  · rintro ⟨s1, s2, G1, G2, rfl, hF, h1, h2, z1, z2⟩
    exact ⟨[.int .i64 x.1], [.int .i64 x.2.1.1, s1.v, s2.v, .string x.2.2.1, .string x.2.2.2], [], (G1 ++ (G2)), rfl, by simp [hF], ⟨rfl, rfl⟩, ⟨[.int .i64 x.2.1.1, s1.v, s2.v], [.string x.2.2.1, .string x.2.2.2], (G1 ++ (G2)), [], rfl, by simp, ⟨[.int .i64 x.2.1.1], [s1.v, s2.v], [], (G1 ++ (G2)), rfl, by simp, ⟨rfl, rfl⟩, ⟨[s1.v], [s2.v], (G1), (G2), rfl, by simp, ⟨s1, rfl, h1⟩, ⟨s2, rfl, h2⟩⟩⟩, ⟨[.string x.2.2.1], [.string x.2.2.2], [], [], rfl, by simp, ⟨rfl, rfl, z1⟩, ⟨rfl, rfl, z2⟩⟩⟩⟩
theorem rep_Built {A : AH} {x : TBuilt} {cs : List Value} {F : List Nat} : Dat.rep A x cs F ↔ ∃ (s1 s2 s3 s4 s5 : Sl) (G1 G2 G3 G4 G5 : List Nat), cs = [.int .i64 x.1, .string x.2.1, s1.v, .int .i64 x.2.2.2.1.1, s2.v, s3.v, s4.v, s5.v, .string x.2.2.2.2.2.2.1, .string x.2.2.2.2.2.2.2] ∧ F = G1 ++ (G2 ++ (G3 ++ (G4 ++ (G5)))) ∧ x.2.1.size < BIG ∧ SlR A s1 x.2.2.1 G1 ∧ SlR A s2 x.2.2.2.1.2.1 G2 ∧ SlR A s3 x.2.2.2.1.2.2 G3 ∧ SlR A s4 x.2.2.2.2.1 G4 ∧ SlR A s5 x.2.2.2.2.2.1 G5 ∧ x.2.2.2.2.2.2.1.size < BIG ∧ x.2.2.2.2.2.2.2.size < BIG := by
  constructor
  · rintro ⟨_, _, _, _, rfl, rfl, ⟨rfl, rfl⟩, ⟨_, _, _, _, rfl, rfl, ⟨rfl, rfl, z1⟩, ⟨_, _, _, _, rfl, rfl, ⟨s1, rfl, h1⟩, ⟨_, _, _, _, rfl, rfl, ⟨_, _, _, _, rfl, rfl, ⟨rfl, rfl⟩, ⟨_, _, _, _, rfl, rfl, ⟨s2, rfl, h2⟩, ⟨s3, rfl, h3⟩⟩⟩, ⟨_, _, _, _, rfl, rfl, ⟨s4, rfl, h4⟩, ⟨_, _, _, _, rfl, rfl, ⟨s5, rfl, h5⟩, ⟨_, _, _, _, rfl, rfl, ⟨rfl, rfl, z2⟩, ⟨rfl, rfl, z3⟩⟩⟩⟩⟩⟩⟩⟩
    exact ⟨s1, s2, s3, s4, s5, _, _, _, _, _, rfl, by simp, z1, h1, h2, h3, h4, h5, z2, z3⟩
  · rintro ⟨s1, s2, s3, s4, s5, G1, G2, G3, G4, G5, rfl, hF, z1, h1, h2, h3, h4, h5, z2, z3⟩
    exact ⟨[.int .i64 x.1], [.string x.2.1, s1.v, .int .i64 x.2.2.2.1.1, s2.v, s3.v, s4.v, s5.v, .string x.2.2.2.2.2.2.1, .string x.2.2.2.2.2.2.2], [], (G1 ++ (G2 ++ (G3 ++ (G4 ++ (G5))))), rfl, by simp [hF], ⟨rfl, rfl⟩, ⟨[.string x.2.1], [s1.v, .int .i64 x.2.2.2.1.1, s2.v, s3.v, s4.v, s5.v, .string x.2.2.2.2.2.2.1, .string x.2.2.2.2.2.2.2], [], (G1 ++ (G2 ++ (G3 ++ (G4 ++ (G5))))), rfl, by simp, ⟨rfl, rfl, z1⟩, ⟨[s1.v], [.int .i64 x.2.2.2.1.1, s2.v, s3.v, s4.v, s5.v, .string x.2.2.2.2.2.2.1, .string x.2.2.2.2.2.2.2], (G1), (G2 ++ (G3 ++ (G4 ++ (G5)))), rfl, by simp, ⟨s1, rfl, h1⟩, ⟨[.int .i64 x.2.2.2.1.1, s2.v, s3.v], [s4.v, s5.v, .string x.2.2.2.2.2.2.1, .string x.2.2.2.2.2.2.2], (G2 ++ (G3)), (G4 ++ (G5)), rfl, by simp, ⟨[.int .i64 x.2.2.2.1.1], [s2.v, s3.v], [], (G2 ++ (G3)), rfl, by simp, ⟨rfl, rfl⟩, ⟨[s2.v], [s3.v], (G2), (G3), rfl, by simp, ⟨s2, rfl, h2⟩, ⟨s3, rfl, h3⟩⟩⟩, ⟨[s4.v], [s5.v, .string x.2.2.2.2.2.2.1, .string x.2.2.2.2.2.2.2], (G4), (G5), rfl, by simp, ⟨s4, rfl, h4⟩, ⟨[s5.v], [.string x.2.2.2.2.2.2.1, .string x.2.2.2.2.2.2.2], (G5), [], rfl, by simp, ⟨s5, rfl, h5⟩, ⟨[.string x.2.2.2.2.2.2.1], [.string x.2.2.2.2.2.2.2], [], [], rfl, by simp, ⟨rfl, rfl, z2⟩, ⟨rfl, rfl, z3⟩⟩⟩⟩⟩⟩⟩⟩
theorem nmL_Ins (l : List TIns) : nmL l ≤ 3 * szL Mk.sz l := nmL_le 3 l fun x => by show 1 + (1 + 1) ≤ _; omega
theorem nmL_Source (l : List TSource) : nmL l ≤ 3 * szL Mk.sz l := nmL_le 3 l fun x => by show 1 + 1 ≤ _; omega
theorem nmL_Reply (l : List TReply) : nmL l ≤ 3 * szL Mk.sz l := nmL_le 3 l fun x => by show 1 + (1 + 1) ≤ _; omega
theorem nmL_Seen (l : List TSeen) : nmL l ≤ 3 * szL Mk.sz l := nmL_le 3 l fun x => by show 1 + (1 + 1) ≤ _; omega
theorem nmL_Str (l : List ByteArray) : nmL l ≤ 3 * szL Mk.sz l := nmL_le 3 l fun x => by show 1 ≤ _; omega
theorem nmL_Target (l : List TTarget) : nmL l ≤ 3 * szL Mk.sz l := nmL_le 3 l fun x => by
  have := nmL_Ins x.2
  show 1 + nmL x.2 ≤ 3 + 3 * (x.1.size + szL Mk.sz x.2)
  omega
theorem nmL_Record (l : List TRecord) : nmL l ≤ 3 * szL Mk.sz l := nmL_le 3 l fun x => by
  have := nmL_Ins x.1
  have := nmL_Seen x.2.1
  show nmL x.1 + (nmL x.2.1 + 1) ≤ 3 + 3 * (szL Mk.sz x.1 + (szL Mk.sz x.2.1 + x.2.2.size))
  omega
end Go.AM
