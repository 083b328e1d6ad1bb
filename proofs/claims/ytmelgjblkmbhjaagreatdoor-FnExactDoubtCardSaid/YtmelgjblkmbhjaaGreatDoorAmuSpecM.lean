import Derived.Test.YtmelgjblkmbhjaaGreatDoorAmuTy
import Derived.Test.YtmelgjblkmbhjaaGreatDoorAmRun
import Derived.Test.YtmelgjblkmbhjaaGreatDoorAmuMach
import Derived.Test.YtmelgjblkmbhjaaGreatDoorAmuForm
import Derived.Test.YtmelgjblkmbhjaaGreatDoorAmuStore
namespace Go.Proofs.YtmelgjblkmbhjaaGreatDoor.Amu.SpecM
open Go Go.AM Go.Proofs
set_option linter.all false
open Ty
variable {ro : Nat} {X : FuncId → List Value → AH → ARes → AH → Prop}
set_option maxRecDepth 10000
open Mach (fromI slr_new big1 big2 wordR_size)
def sc (s : Sl) (pc st lk : Nat) (ov : Bool) (c : Int) (t : ByteArray) (ask : Bool) (nm : ByteArray) (w : Bool) : Value := .agg #[.int .i64 pc, s.v, .int .i64 st, .int .i64 lk, .bool ov, .int .i64 c, .string t, .bool ask, .string nm, .bool w]
theorem l2Flag_a (A : AH) (b : Bool) : ACalls Tryz.prog ro X 188 [.bool b] A (fun r A' => r = .ret (.string (flagS b)) ∧ A' = A) := by
 refine ACalls.enterQ (rs := [.tmp 2]) Tryz.func188 rfl (by kernel_rfl) rfl ?_
 cases b
 ·simp (disch := first | omega | fail) only [amR Tryz.prog ro X, amS, seval, reduceCtorEq]
  rfl
 ·simp (disch := first | omega | fail) only [amR Tryz.prog ro X, amS, seval, reduceCtorEq]
  rfl
theorem l2End_a (A : AH) (hro : ro ≤ A.size) (s : Sl) (pc st lk : Nat) (ov : Bool) (c0 : Int) (t0 : ByteArray) (ask : Bool) (nm : ByteArray) (w : Bool) (c : Int) (t : ByteArray) :
 ACalls Tryz.prog ro X 160 [sc s pc st lk ov c0 t0 ask nm w, .int .i64 c, .string t] A (fun r A' => r = .ret (sc s pc st lk true c t ask nm w) ∧ Ext A A') := by
 refine ACalls.enterQ (rs := [.cell 6 195]) Tryz.func160 rfl (by kernel_rfl) rfl ?_
 unfold sc
 simp (maxSteps := 2000000) (disch := first | omega | (simp only [AH.zN, AH.zP] <;> omega) | fail) only [amR Tryz.prog ro X, amS, seval, reduceCtorEq, ty3, ty4, ty9, ty22, ty195]
 exact (by ((repeat' (first | exact Ext.refl _ | assumption | refine Ext.trans ?_ (Ext.new _ _) | refine Ext.put ?_ ?_ _ | refine Ext.trans ?_ (by assumption))) <;> (first | omega | (simp only [AH.zN, AH.zP] <;> omega))))
theorem l2Takes_a (A : AH) (op : Int) (h1 : 1 ≤ op) (h2 : op ≤ 15) : ACalls Tryz.prog ro X 161 [.int .i64 op] A (fun r A' => r = .ret (.tuple #[.int .i64 (opTake op), .int .i64 (opPut op)]) ∧ A' = A) := by
 refine ACalls.enterQ (rs := [.tmp 2, .tmp 3]) Tryz.func161 rfl (by kernel_rfl) rfl ?_
 rcases op_cases h1 h2 with rfl | rfl | rfl | rfl | rfl | rfl | rfl | rfl | rfl | rfl | rfl | rfl | rfl | rfl | rfl
 all_goals
  simp (disch := first | omega | fail) only [amR Tryz.prog ro X, amS, seval, reduceCtorEq, ty3]
  rfl
theorem l2Piece_a (A : AH) (s : ByteArray) (hs : s.size ≤ 2000) (n : Nat) (hn : n ≤ 2000) : ACalls Tryz.prog ro X 189 [.string s, .int .i64 n] A (fun r A' => r = .ret (.string (wordR s n)) ∧ A' = A) := by
 refine ACalls.enterQ (rs := [.tmp 4]) Tryz.func189 rfl (by kernel_rfl) rfl ?_
 simp (disch := first | omega | fail) only [amR Tryz.prog ro X, amS, seval, reduceCtorEq, ty3, ty4, ty5, ty9]
 refine Wp.loopC (fun k e A' => A' = A ∧ e 0 = .string s ∧ ∃ i : Nat, i ≤ s.size + 1 ∧ k = s.size + 1 - i ∧ e 6 = .int .i64 i ∧ ∃ o, e 5 = .int .i64 (fromI o) ∧ (∀ f, o = some f → f ≤ i) ∧ ∃ n' : Nat, n' ≤ 2000 ∧ e 1 = .int .i64 n' ∧ (piecesR s i o).getD n' ⟨#[]⟩ = wordR s n) (s.size + 1 - 0) ?_ ?_
 ·simp (disch := first | omega | fail) only [amV, amH, amQ, amL, amN Tryz.prog, amS, seval, reduceCtorEq, ty3, ty4, ty5, ty9]
  exact ⟨0, by omega, rfl, rfl, none, rfl, (by intro f h; cases h), n, hn, rfl, rfl⟩
 ·rintro k e A' ⟨rfl, e0, i, hi, rfl, e6, o, e5, hof, n', hn', e1, hp⟩
  simp (disch := first | omega | fail) only [amR Tryz.prog ro X, amS, seval, reduceCtorEq, ty3, ty4, ty5, ty9, e0, e6]
  refine CondB.split (fun h => ?_) (fun h => ?_)
  ·have hil : i ≤ s.size := by simp at h; omega
   have hg : (gapAt s i = true ∧ ((i : Int) = s.size ∨ (¬ (i : Int) = s.size ∧ ((bget s i).toNat : Int) = 32) ∨ (¬ (i : Int) = s.size ∧ ¬ ((bget s i).toNat : Int) = 32 ∧ ((bget s i).toNat : Int) = 10))) ∨ (gapAt s i = false ∧ ¬ (i : Int) = s.size ∧ ¬ ((bget s i).toNat : Int) = 32 ∧ ¬ ((bget s i).toNat : Int) = 10) := by
    unfold gapAt
    by_cases c1 : i = s.size
    ·exact .inl ⟨by simp [c1], .inl (by omega)⟩
    ·by_cases c2 : ((bget s i).toNat : Int) = 32
     ·exact .inl ⟨by simp [c2], .inr (.inl ⟨by omega, c2⟩)⟩
     ·by_cases c3 : ((bget s i).toNat : Int) = 10
      ·exact .inl ⟨by simp [c3], .inr (.inr ⟨by omega, c2, c3⟩)⟩
      ·exact .inr ⟨by simp [c1, c2, c3], by omega, c2, c3⟩
   cases o with
   | none =>
     have hpe := piecesR_none hil
     have f1 : (fromI none : Int) = -1 := rfl
     rcases hg with ⟨hg, hg'⟩ | ⟨hg, g1, g2, g3⟩
     ·rw [hg, if_pos rfl] at hpe
      rw [hpe] at hp
      rcases hg' with g1 | ⟨g1, g2⟩ | ⟨g1, g2, g3⟩
      ·obtain rfl : i = s.size := by omega
       simp (disch := first | omega | fail) only [amR Tryz.prog ro X, amS, seval, reduceCtorEq, ty3, ty4, ty5, ty9, e0, e1, e5, e6, f1]
       exact ⟨s.size + 1 - (s.size + 1), by omega, s.size + 1, by omega, rfl, by simp, none, rfl, (by intro f h; cases h), n', hn', rfl, hp⟩
      ·simp (disch := first | omega | fail) only [amR Tryz.prog ro X, amS, seval, reduceCtorEq, ty3, ty4, ty5, ty9, e0, e1, e5, e6, f1, g1, g2]
       exact ⟨s.size + 1 - (i + 1), by omega, i + 1, by omega, rfl, by simp, none, rfl, (by intro f h; cases h), n', hn', rfl, hp⟩
      ·simp (disch := first | omega | fail) only [amR Tryz.prog ro X, amS, seval, reduceCtorEq, ty3, ty4, ty5, ty9, e0, e1, e5, e6, f1, g1, g2, g3]
       exact ⟨s.size + 1 - (i + 1), by omega, i + 1, by omega, rfl, by simp, none, rfl, (by intro f h; cases h), n', hn', rfl, hp⟩
     ·rw [hg, if_neg (by simp)] at hpe
      rw [hpe] at hp
      simp (disch := first | omega | fail) only [amR Tryz.prog ro X, amS, seval, reduceCtorEq, ty3, ty4, ty5, ty9, e0, e1, e5, e6, f1, g1, g2, g3]
      exact ⟨s.size + 1 - (i + 1), by omega, i + 1, by omega, rfl, by simp, some i, rfl, (by intro f h; cases h; omega), n', hn', rfl, hp⟩
   | some f =>
     have hpe := piecesR_some (f := f) hil
     have hfi := hof f rfl
     have f1 : (fromI (some f) : Int) = f := rfl
     have f2 : ¬ (f : Int) < 0 := by omega
     have f3 : (0 : Int) ≤ f := by omega
     rcases hg with ⟨hg, hg'⟩ | ⟨hg, g1, g2, g3⟩
     ·rw [hg, if_pos rfl] at hpe
      rw [hpe] at hp
      have facts : (i : Int) = s.size ∨ ¬ (i : Int) = s.size := by omega
      by_cases h0 : n' = 0
      ·subst h0
       have hp' : s.extract f i = wordR s n := hp
       have e1' : e 1 = .int .i64 0 := e1
       rcases hg' with g1 | ⟨g1, g2⟩ | ⟨g1, g2, g3⟩
       ·obtain rfl : i = s.size := by omega
        simp (disch := first | omega | fail) only [amR Tryz.prog ro X, amS, seval, reduceCtorEq, ty3, ty4, ty5, ty9, e0, e1', e5, e6, f1, f2, f3]
        rw [hp']
       ·simp (disch := first | omega | fail) only [amR Tryz.prog ro X, amS, seval, reduceCtorEq, ty3, ty4, ty5, ty9, e0, e1', e5, e6, f1, f2, f3, g1, g2]
        rw [hp']
       ·simp (disch := first | omega | fail) only [amR Tryz.prog ro X, amS, seval, reduceCtorEq, ty3, ty4, ty5, ty9, e0, e1', e5, e6, f1, f2, f3, g1, g2, g3]
        rw [hp']
      ·obtain ⟨n2, rfl⟩ : ∃ n2, n' = n2 + 1 := ⟨n' - 1, by omega⟩
       have hp' : (piecesR s (i + 1) none).getD n2 ⟨#[]⟩ = wordR s n := hp
       have e1' : e 1 = .int .i64 ((n2 : Int) + 1) := e1
       have k1 : ¬ ((n2 : Int) + 1 = 0) := by omega
       have k2 : (n2 : Int) + 1 - 1 = n2 := by omega
       rcases hg' with g1 | ⟨g1, g2⟩ | ⟨g1, g2, g3⟩
       ·obtain rfl : i = s.size := by omega
        simp (disch := first | omega | fail) only [amR Tryz.prog ro X, amS, seval, reduceCtorEq, ty3, ty4, ty5, ty9, e0, e1', e5, e6, f1, f2, f3, k1, k2]
        exact ⟨s.size + 1 - (s.size + 1), by omega, s.size + 1, by omega, rfl, by simp, none, rfl, (by intro f h; cases h), n2, by omega, rfl, hp'⟩
       ·simp (disch := first | omega | fail) only [amR Tryz.prog ro X, amS, seval, reduceCtorEq, ty3, ty4, ty5, ty9, e0, e1', e5, e6, f1, f2, f3, g1, g2, k1, k2]
        exact ⟨s.size + 1 - (i + 1), by omega, i + 1, by omega, rfl, by simp, none, rfl, (by intro f h; cases h), n2, by omega, rfl, hp'⟩
       ·simp (disch := first | omega | fail) only [amR Tryz.prog ro X, amS, seval, reduceCtorEq, ty3, ty4, ty5, ty9, e0, e1', e5, e6, f1, f2, f3, g1, g2, g3, k1, k2]
        exact ⟨s.size + 1 - (i + 1), by omega, i + 1, by omega, rfl, by simp, none, rfl, (by intro f h; cases h), n2, by omega, rfl, hp'⟩
     ·rw [hg, if_neg (by simp)] at hpe
      rw [hpe] at hp
      simp (disch := first | omega | fail) only [amR Tryz.prog ro X, amS, seval, reduceCtorEq, ty3, ty4, ty5, ty9, e0, e1, e5, e6, f1, f2, f3, g1, g2, g3]
      exact ⟨s.size + 1 - (i + 1), by omega, i + 1, by omega, rfl, by simp, some f, rfl, (by intro f' h; cases h; omega), n', hn', rfl, hp⟩
  ·have hil : i = s.size + 1 := by simp at h; omega
   subst hil
   rw [piecesR_end (by omega)] at hp
   simp (disch := first | omega | fail) only [amR Tryz.prog ro X, amS, seval, reduceCtorEq, ty3, ty4, ty5, ty9, e0, e1]
   exact congrArg (fun x => ARes.ret (.string x)) hp
theorem l2Plain_a (A : AH) (hro : ro ≤ A.size) (o : Int) (ho1 : 1 ≤ o) (ho2 : o ≤ 15) (xt : ByteArray) (hxt : xt.size ≤ 2000) (n : Nat) (hn : n ≤ 2000) (a b : ByteArray) (ha : a.size ≤ 2000) (hb : b.size ≤ 2000) :
 ACalls Tryz.prog ro X 163 [.agg #[.int .i64 o, .string xt, .int .i64 n], .string a, .string b] A (fun r A' => ∃ u : Sl, r = .ret u.v ∧ (∃ F, SlR A' u (plainR (o, xt, (n : Int)) a b) F) ∧ Ext A A') := by
 have slr : ∀ {A' : AH} {u : Sl} {l : List ByteArray}, (∃ F, SlR A' u l F) → l = plainR (o, xt, (n : Int)) a b → ∃ F, SlR A' u (plainR (o, xt, (n : Int)) a b) F := fun h e => e ▸ h
 refine ACalls.enterQ (rs := [.tmp 6]) Tryz.func163 rfl (by kernel_rfl) rfl ?_
 rcases op_cases ho1 ho2 with rfl | rfl | rfl | rfl | rfl | rfl | rfl | rfl | rfl | rfl | rfl | rfl | rfl | rfl | rfl
 ·simp (maxSteps := 2000000) (disch := first | omega | (simp only [AH.zN, AH.zP] <;> omega) | fail) only [amR Tryz.prog ro X, amS, seval, reduceCtorEq, ty3, ty9, ty22, ty106]
  exact ⟨⟨false, A.size + 1, 0, 1, 1⟩, rfl, slr (slr_new (l := [xt]) (by first | omega | (simp only [AH.zN, AH.zP] <;> omega)) (AH.gNs (A.new _) _) (by intro t ht; rw [List.mem_singleton.1 ht];  unfold BIG; omega) big1) (rfl), (by ((repeat' (first | exact Ext.refl _ | assumption | refine Ext.trans ?_ (Ext.new _ _) | refine Ext.put ?_ ?_ _ | refine Ext.trans ?_ (by assumption))) <;> (first | omega | (simp only [AH.zN, AH.zP] <;> omega))))⟩
 ·simp (maxSteps := 2000000) (disch := first | omega | (simp only [AH.zN, AH.zP] <;> omega) | fail) only [amR Tryz.prog ro X, amS, seval, reduceCtorEq, ty3, ty9, ty22, ty106]
  exact ⟨⟨false, A.size + 1, 0, 1, 1⟩, rfl, slr (slr_new (l := [b ++ a]) (by first | omega | (simp only [AH.zN, AH.zP] <;> omega)) (AH.gNs (A.new _) _) (by intro t ht; rw [List.mem_singleton.1 ht]; rw [ByteArray.size_append]; unfold BIG; omega) big1) (rfl), (by ((repeat' (first | exact Ext.refl _ | assumption | refine Ext.trans ?_ (Ext.new _ _) | refine Ext.put ?_ ?_ _ | refine Ext.trans ?_ (by assumption))) <;> (first | omega | (simp only [AH.zN, AH.zP] <;> omega))))⟩
 ·by_cases k : (n : Int) < a.size
  ·simp (maxSteps := 2000000) (disch := first | omega | (simp only [AH.zN, AH.zP] <;> omega) | fail) only [amR Tryz.prog ro X, amS, seval, reduceCtorEq, ty3, ty9, ty22, ty106, k]
   exact ⟨⟨false, A.size + 1, 0, 1, 1⟩, rfl, slr (slr_new (l := [a.extract 0 n]) (by first | omega | (simp only [AH.zN, AH.zP] <;> omega)) (AH.gNs (A.new _) _) (by intro t ht; rw [List.mem_singleton.1 ht]; rw [ByteArray.size_extract]; unfold BIG; omega) big1) (by show _ = [a.extract 0 (min n a.size)]; rw [Nat.min_eq_left (by omega)]), (by ((repeat' (first | exact Ext.refl _ | assumption | refine Ext.trans ?_ (Ext.new _ _) | refine Ext.put ?_ ?_ _ | refine Ext.trans ?_ (by assumption))) <;> (first | omega | (simp only [AH.zN, AH.zP] <;> omega))))⟩
  ·simp (maxSteps := 2000000) (disch := first | omega | (simp only [AH.zN, AH.zP] <;> omega) | fail) only [amR Tryz.prog ro X, amS, seval, reduceCtorEq, ty3, ty9, ty22, ty106, k]
   exact ⟨⟨false, A.size + 1, 0, 1, 1⟩, rfl, slr (slr_new (l := [a]) (by first | omega | (simp only [AH.zN, AH.zP] <;> omega)) (AH.gNs (A.new _) _) (by intro t ht; rw [List.mem_singleton.1 ht];  unfold BIG; omega) big1) (by show _ = [a.extract 0 (min n a.size)]; rw [Nat.min_eq_right (by omega), ByteArray.extract_zero_size]), (by ((repeat' (first | exact Ext.refl _ | assumption | refine Ext.trans ?_ (Ext.new _ _) | refine Ext.put ?_ ?_ _ | refine Ext.trans ?_ (by assumption))) <;> (first | omega | (simp only [AH.zN, AH.zP] <;> omega))))⟩
 ·by_cases k : (n : Int) < a.size
  ·simp (maxSteps := 2000000) (disch := first | omega | (simp only [AH.zN, AH.zP] <;> omega) | fail) only [amR Tryz.prog ro X, amS, seval, reduceCtorEq, ty3, ty9, ty22, ty106, k]
   exact ⟨⟨false, A.size + 1, 0, 1, 1⟩, rfl, slr (slr_new (l := [a.extract n a.size]) (by first | omega | (simp only [AH.zN, AH.zP] <;> omega)) (AH.gNs (A.new _) _) (by intro t ht; rw [List.mem_singleton.1 ht]; rw [ByteArray.size_extract]; unfold BIG; omega) big1) (by show _ = [a.extract (min n a.size) a.size]; rw [Nat.min_eq_left (by omega)]), (by ((repeat' (first | exact Ext.refl _ | assumption | refine Ext.trans ?_ (Ext.new _ _) | refine Ext.put ?_ ?_ _ | refine Ext.trans ?_ (by assumption))) <;> (first | omega | (simp only [AH.zN, AH.zP] <;> omega))))⟩
  ·simp (maxSteps := 2000000) (disch := first | omega | (simp only [AH.zN, AH.zP] <;> omega) | fail) only [amR Tryz.prog ro X, amS, seval, reduceCtorEq, ty3, ty9, ty22, ty106, k]
   exact ⟨⟨false, A.size + 1, 0, 1, 1⟩, rfl, slr (slr_new (l := [⟨#[]⟩]) (by first | omega | (simp only [AH.zN, AH.zP] <;> omega)) (AH.gNs (A.new _) _) (by intro t ht; rw [List.mem_singleton.1 ht]; show 0 < _; unfold BIG; omega) big1) (by show _ = [a.extract (min n a.size) a.size]; rw [Nat.min_eq_right (by omega), ByteArray.extract_same]; rfl), (by ((repeat' (first | exact Ext.refl _ | assumption | refine Ext.trans ?_ (Ext.new _ _) | refine Ext.put ?_ ?_ _ | refine Ext.trans ?_ (by assumption))) <;> (first | omega | (simp only [AH.zN, AH.zP] <;> omega))))⟩
 ·simp (disch := first | omega | fail) only [amR Tryz.prog ro X, amS, seval, reduceCtorEq, ty3, ty9, ty22, ty106]
  refine (l2Piece_a _ a ha n hn).mono ?_
  rintro r A' ⟨rfl, rfl⟩
  simp (maxSteps := 2000000) (disch := first | omega | (simp only [AH.zN, AH.zP] <;> omega) | fail) only [amR Tryz.prog ro X, amS, seval, reduceCtorEq, ty3, ty9, ty22, ty106]
  have hwz := wordR_size a n
  exact ⟨⟨false, A.size + 1, 0, 1, 1⟩, rfl, slr (slr_new (l := [wordR a n]) (by first | omega | (simp only [AH.zN, AH.zP] <;> omega)) (AH.gNs (A.new _) _) (by intro t ht; rw [List.mem_singleton.1 ht];  unfold BIG; omega) big1) (rfl), (by ((repeat' (first | exact Ext.refl _ | assumption | refine Ext.trans ?_ (Ext.new _ _) | refine Ext.put ?_ ?_ _ | refine Ext.trans ?_ (by assumption))) <;> (first | omega | (simp only [AH.zN, AH.zP] <;> omega))))⟩
 ·simp (disch := first | omega | fail) only [amR Tryz.prog ro X, amS, seval, reduceCtorEq, ty3, ty9, ty22, ty106]
  refine (l2Flag_a _ _).mono ?_
  rintro r A' ⟨rfl, rfl⟩
  simp (maxSteps := 2000000) (disch := first | omega | (simp only [AH.zN, AH.zP] <;> omega) | fail) only [amR Tryz.prog ro X, amS, seval, reduceCtorEq, ty3, ty9, ty22, ty106]
  have hwz := flagS_size (decide (a = b))
  exact ⟨⟨false, A.size + 1, 0, 1, 1⟩, rfl, slr (slr_new (l := [flagS (decide (a = b))]) (by first | omega | (simp only [AH.zN, AH.zP] <;> omega)) (AH.gNs (A.new _) _) (by intro t ht; rw [List.mem_singleton.1 ht];  unfold BIG; omega) big1) (by show _ = [flagS (decide (b = a))]; rw [decide_eq_decide.2 (eq_comm : a = b ↔ b = a)]), (by ((repeat' (first | exact Ext.refl _ | assumption | refine Ext.trans ?_ (Ext.new _ _) | refine Ext.put ?_ ?_ _ | refine Ext.trans ?_ (by assumption))) <;> (first | omega | (simp only [AH.zN, AH.zP] <;> omega))))⟩
 ·simp (maxSteps := 2000000) (disch := first | omega | (simp only [AH.zN, AH.zP] <;> omega) | fail) only [amR Tryz.prog ro X, amS, seval, reduceCtorEq, ty3, ty9, ty22, ty106]
  exact ⟨⟨false, A.size + 1, 0, 2, 2⟩, rfl, slr (slr_new (l := [a, a]) (by first | omega | (simp only [AH.zN, AH.zP] <;> omega)) (AH.gNs (A.new _) _) (by intro t ht; simp only [List.mem_cons, List.not_mem_nil, or_false] at ht; rcases ht with rfl | rfl <;> (unfold BIG; omega)) big2) rfl, (by ((repeat' (first | exact Ext.refl _ | assumption | refine Ext.trans ?_ (Ext.new _ _) | refine Ext.put ?_ ?_ _ | refine Ext.trans ?_ (by assumption))) <;> (first | omega | (simp only [AH.zN, AH.zP] <;> omega))))⟩
 ·simp (maxSteps := 2000000) (disch := first | omega | (simp only [AH.zN, AH.zP] <;> omega) | fail) only [amR Tryz.prog ro X, amS, seval, reduceCtorEq, ty3, ty9, ty22, ty106]
  exact ⟨⟨false, A.size + 1, 0, 2, 2⟩, rfl, slr (slr_new (l := [a, b]) (by first | omega | (simp only [AH.zN, AH.zP] <;> omega)) (AH.gNs (A.new _) _) (by intro t ht; simp only [List.mem_cons, List.not_mem_nil, or_false] at ht; rcases ht with rfl | rfl <;> (unfold BIG; omega)) big2) rfl, (by ((repeat' (first | exact Ext.refl _ | assumption | refine Ext.trans ?_ (Ext.new _ _) | refine Ext.put ?_ ?_ _ | refine Ext.trans ?_ (by assumption))) <;> (first | omega | (simp only [AH.zN, AH.zP] <;> omega))))⟩
 all_goals
  simp (maxSteps := 2000000) (disch := first | omega | (simp only [AH.zN, AH.zP] <;> omega) | fail) only [amR Tryz.prog ro X, amS, seval, reduceCtorEq, ty3, ty9, ty22, ty106]
  exact ⟨⟨false, A.size + 1, 0, 0, 0⟩, rfl, slr (slr_new (l := []) (by first | omega | (simp only [AH.zN, AH.zP] <;> omega)) (AH.gNs (A.new _) _) (by intro t ht; cases ht) (by decide)) rfl, (by ((repeat' (first | exact Ext.refl _ | assumption | refine Ext.trans ?_ (Ext.new _ _) | refine Ext.put ?_ ?_ _ | refine Ext.trans ?_ (by assumption))) <;> (first | omega | (simp only [AH.zN, AH.zP] <;> omega))))⟩
end Go.Proofs.YtmelgjblkmbhjaaGreatDoor.Amu.SpecM
