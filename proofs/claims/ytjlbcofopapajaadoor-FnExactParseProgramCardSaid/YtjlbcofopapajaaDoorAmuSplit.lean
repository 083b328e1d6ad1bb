import Derived.Test.YtjlbcofopapajaaDoorAmuTy
import Derived.Test.YtjlbcofopapajaaDoorAmRun
import Derived.Test.YtjlbcofopapajaaDoorAmPrs
namespace Go.Proofs.YtjlbcofopapajaaDoor.Amu.Split
open Go Go.AM Go.Proofs
set_option linter.all false
open Ty
variable {ro : Nat} {X : FuncId → List Value → AH → ARes → AH → Prop}
set_option maxRecDepth 10000
def PX (ro : Nat) (X : FuncId → List Value → AH → ARes → AH → Prop) : Prop := ∀ f args A r A', PrsX 151 232 252 300 3 4 ro f args A r A' → X f args A r A'
theorem bcount_a (hX : PX ro X) (A : AH) (s : ByteArray) (c : UInt8) : ACalls Tryd.prog ro X 232 [.string s, .int .u8 c.toNat] A (fun r A' => r = .ret (.int .i64 (Lib.countByte (ls s) c : Nat)) ∧ A' = A) :=
 ⟨_, _, .ext (hX _ _ _ _ _ (.count rfl rfl)), by simp, rfl⟩
theorem bindex_a (hX : PX ro X) (A : AH) (s : ByteArray) (c : UInt8) : ACalls Tryd.prog ro X 252 [.string s, .int .u8 c.toNat] A (fun r A' => r = .ret (.int .i64 (Lib.indexByte (ls s) c)) ∧ A' = A) :=
 ⟨_, _, .ext (hX _ _ _ _ _ (.index rfl rfl)), by simp, rfl⟩
theorem lIndexByte_a (hX : PX ro X) (A : AH) (s : ByteArray) (c : UInt8) : ACalls Tryd.prog ro X 234 [.string s, .int .u8 c.toNat] A (fun r A' => r = .ret (.int .i64 (Lib.indexByte (ls s) c)) ∧ A' = A) := by
 refine ACalls.enterQ (rs := [.tmp 4]) Tryd.func234 rfl (by kernel_rfl) rfl ?_
 simp (maxSteps := 2000000) (disch := first | omega | (simp only [AH.zN, AH.zP] <;> omega) | fail) only [amR Tryd.prog ro X, amS, seval, reduceCtorEq, ty33]
 refine (bindex_a hX _ s c).mono ?_
 rintro r A1 ⟨rfl, rfl⟩
 simp (maxSteps := 2000000) (disch := first | omega | (simp only [AH.zN, AH.zP] <;> omega) | fail) only [amR Tryd.prog ro X, amS, seval, reduceCtorEq, ty33]
theorem IndexByte_a (hX : PX ro X) (A : AH) (s : ByteArray) (c : UInt8) : ACalls Tryd.prog ro X 206 [.string s, .int .u8 c.toNat] A (fun r A' => r = .ret (.int .i64 (Lib.indexByte (ls s) c)) ∧ A' = A) := by
 refine ACalls.enterQ (rs := [.tmp 4]) Tryd.func206 rfl (by kernel_rfl) rfl ?_
 simp (maxSteps := 2000000) (disch := first | omega | (simp only [AH.zN, AH.zP] <;> omega) | fail) only [amR Tryd.prog ro X, amS, seval, reduceCtorEq, ty33]
 refine (lIndexByte_a hX _ s c).mono ?_
 rintro r A1 ⟨rfl, rfl⟩
 simp (maxSteps := 2000000) (disch := first | omega | (simp only [AH.zN, AH.zP] <;> omega) | fail) only [amR Tryd.prog ro X, amS, seval, reduceCtorEq, ty33]
theorem lIndex_a (hX : PX ro X) (A : AH) (s : ByteArray) (c : UInt8) : ACalls Tryd.prog ro X 233 [.string s, .string ⟨#[c]⟩] A (fun r A' => r = .ret (.int .i64 (Lib.indexByte (ls s) c)) ∧ A' = A) := by
 refine ACalls.enterQ (rs := [.tmp 4]) Tryd.func233 rfl (by kernel_rfl) rfl ?_
 have h1 : (⟨#[c]⟩ : ByteArray).size = 1 := rfl
 have h0 : bget ⟨#[c]⟩ 0 = c := rfl
 by_cases hsc : (⟨#[c]⟩ : ByteArray) = s
 ·subst hsc
  simp (maxSteps := 2000000) (disch := first | omega | (simp only [AH.zN, AH.zP] <;> omega) | fail) only [amR Tryd.prog ro X, amS, seval, reduceCtorEq, ty3, ty5, ty9, ty33, h1, h0]
  have : ls (⟨#[c]⟩ : ByteArray) = [c] := rfl
  rw [this]
  simp [Lib.indexByte]
 simp (maxSteps := 2000000) (disch := first | omega | (simp only [AH.zN, AH.zP] <;> omega) | fail) only [amR Tryd.prog ro X, amS, seval, reduceCtorEq, ty3, ty5, ty9, ty33, h1, h0, hsc]
 refine (lIndexByte_a hX _ s c).mono ?_
 rintro r A1 ⟨rfl, rfl⟩
 simp (maxSteps := 2000000) (disch := first | omega | (simp only [AH.zN, AH.zP] <;> omega) | fail) only [amR Tryd.prog ro X, amS, seval, reduceCtorEq, ty3, ty5, ty9, ty33]
theorem Index_a (hX : PX ro X) (A : AH) (s : ByteArray) (c : UInt8) : ACalls Tryd.prog ro X 204 [.string s, .string ⟨#[c]⟩] A (fun r A' => r = .ret (.int .i64 (Lib.indexByte (ls s) c)) ∧ A' = A) := by
 refine ACalls.enterQ (rs := [.tmp 4]) Tryd.func204 rfl (by kernel_rfl) rfl ?_
 simp (maxSteps := 2000000) (disch := first | omega | (simp only [AH.zN, AH.zP] <;> omega) | fail) only [amR Tryd.prog ro X, amS, seval, reduceCtorEq, ty33]
 refine (lIndex_a hX _ s c).mono ?_
 rintro r A1 ⟨rfl, rfl⟩
 simp (maxSteps := 2000000) (disch := first | omega | (simp only [AH.zN, AH.zP] <;> omega) | fail) only [amR Tryd.prog ro X, amS, seval, reduceCtorEq, ty33]
theorem Count_a (hX : PX ro X) (A : AH) (s : ByteArray) (c : UInt8) : ACalls Tryd.prog ro X 203 [.string s, .string ⟨#[c]⟩] A (fun r A' => r = .ret (.int .i64 (Lib.countByte (ls s) c : Nat)) ∧ A' = A) := by
 refine ACalls.enterQ (rs := [.tmp 4]) Tryd.func203 rfl (by kernel_rfl) rfl ?_
 have h1 : (⟨#[c]⟩ : ByteArray).size = 1 := rfl
 have h0 : bget ⟨#[c]⟩ 0 = c := rfl
 simp (maxSteps := 2000000) (disch := first | omega | (simp only [AH.zN, AH.zP] <;> omega) | fail) only [amR Tryd.prog ro X, amS, seval, reduceCtorEq, ty3, ty9, ty33, h1, h0]
 refine (bcount_a hX _ s c).mono ?_
 rintro r A1 ⟨rfl, rfl⟩
 simp (maxSteps := 2000000) (disch := first | omega | (simp only [AH.zN, AH.zP] <;> omega) | fail) only [amR Tryd.prog ro X, amS, seval, reduceCtorEq, ty3, ty9, ty33]
theorem cutN {P : Program} {t : TypeId} (ht : tElemSize P t = some 1) (H : AH) (b : Nat) {n N : Nat} (hn : n ≤ N) (hN : N < BIG) :
 aSlice P H t (Sl.mk false b 0 N N).v none (some (.int .i64 n)) none = some (Sl.mk false b 0 n N).v := by
 unfold Sl.v aSlice aBound
 simp [ht, hN, hn, Addr.add]
theorem genSplit_a (hX : PX ro X) (A : AH) (hro : ro ≤ A.size) (s : ByteArray) (hs : s.size < 1073741824) :
 ACalls Tryd.prog ro X 148 [.string s, .string ⟨#[10]⟩, .int .i64 0, .int .i64 (-1)] A (fun r A' => ∃ b, r = .ret (Sl.mk false b 0 (splitS s).length (splitS s).length).v ∧ A.size ≤ b ∧ b < A'.size ∧ A'.get b = .cells ((splitS s).map Value.string) 1 ∧ Ext A A') := by
 refine ACalls.enterQ (rs := [.tmp 8]) Tryd.func148 rfl (by kernel_rfl) rfl ?_
 have h1 : (⟨#[10]⟩ : ByteArray).size = 1 := rfl
 have hne : ((⟨#[10]⟩ : ByteArray) = ⟨#[]⟩) = False := eq_false (by decide)
 simp (maxSteps := 2000000) (disch := first | omega | (simp only [AH.zN, AH.zP] <;> omega) | fail) only [amR Tryd.prog ro X, amS, seval, reduceCtorEq, ty3, ty9, ty33, h1, hne]
 refine (Count_a hX _ s 10).mono ?_
 rintro r A1 ⟨rfl, rfl⟩
 have hc : Lib.countByte (ls s) 10 ≤ s.size := by rw [← ls_length]; exact List.count_le_length
 generalize hn : Lib.countByte (ls s) 10 = n at hc
 have hmin : aMin [.int .i64 ((n : Int) + 1), .int .i64 ((s.size : Int) + 1)] = some (.int .i64 ((n : Int) + 1)) := by
  show (if IntKind.i64 = IntKind.i64 then some (Value.int IntKind.i64 (if ((s.size : Int) + 1) < (n : Int) + 1 then (s.size : Int) + 1 else (n : Int) + 1)) else none) = _
  rw [if_pos rfl, if_neg (by omega)]
 have hlen : (splitS s).length = n + 1 := by rw [splitS_count]; unfold Lib.countByte at hn; omega
 have htn : ((n : Int) + 1).toNat = n + 1 := by omega
 have hsb : ((n : Int) + 1 - 1) = n := by omega
 simp (maxSteps := 2000000) (disch := first | omega | (simp only [AH.zN, AH.zP] <;> omega) | fail) only [amR Tryd.prog ro X, amS, seval, reduceCtorEq, ty3, ty9, ty33, hmin, htn, hsb]
 generalize hB : A1.new _ = B
 have zB : B.size = A1.size + 1 := by rw [← hB]; rfl
 have hEB : Ext A1 B := by rw [← hB]; exact Ext.new _ _
 have gB : ∃ cs, B.get A1.size = .cells cs 1 ∧ cs.length = n + 1 := by
  rw [← hB]
  exact ⟨_, AH.gNs _ _, by simp⟩
 clear hB
 obtain ⟨cs0, gB, hcs0⟩ := gB
 have hbig : ∀ x ∈ splitS s, x.size < BIG := fun x hx => by have := splitS_size hx; unfold BIG; omega
 refine Wp.loopC (fun k e A' => e 1 = .string ⟨#[10]⟩ ∧ e 2 = .int .i64 0 ∧ e 3 = .int .i64 n ∧ e 9 = (Sl.mk false A1.size 0 (n + 1) (n + 1)).v ∧ Ext A1 A' ∧ A1.size < A'.size ∧
  ∃ i : Nat, i ≤ n ∧ k = n - i ∧ e 10 = .int .i64 i ∧ ∃ t cs, e 0 = .string t ∧ t.size ≤ s.size ∧ splitS s = (splitS s).take i ++ splitS t ∧ A'.get A1.size = .cells cs 1 ∧ cs.length = n + 1 ∧ cs.take i = ((splitS s).take i).map Value.string) (n - 0) ?_ ?_
 ·simp (maxSteps := 2000000) (disch := first | omega | (simp only [AH.zN, AH.zP] <;> omega) | fail) only [amV, amH, amQ, amL, amN Tryd.prog, amS, seval, reduceCtorEq, ty3, ty9, ty33]
  exact ⟨hEB, by omega, 0, by omega, rfl, rfl, s, cs0, rfl, Nat.le_refl _, by simp, gB, hcs0, by simp⟩
 ·rintro k e A' ⟨e1, e2, e3, e9, hE, hz, i, hi, rfl, e10, t, cs, e0, htz, hsp, hg, hcl, htk⟩
  simp (maxSteps := 2000000) (disch := first | omega | (simp only [AH.zN, AH.zP] <;> omega) | fail) only [amR Tryd.prog ro X, amS, seval, reduceCtorEq, ty3, ty9, ty33, e3, e10]
  have hlt : (splitS t).length = n + 1 - i := by
   have := congrArg List.length hsp
   rw [List.length_append, List.length_take, hlen] at this
   omega
  have hnx : ∀ (h : i < (splitS s).length), (splitS s)[i]? = (splitS t)[0]? := fun h => by
   conv => lhs; rw [hsp]
   rw [List.getElem?_append_right (by rw [List.length_take]; omega), List.length_take, Nat.min_eq_left (by omega), Nat.sub_self]
  refine CondB.split (fun h => ?_) (fun h => ?_)
  ·have hil : i < n := by simp at h; omega
   simp (maxSteps := 2000000) (disch := first | omega | (simp only [AH.zN, AH.zP] <;> omega) | fail) only [amR Tryd.prog ro X, amS, seval, reduceCtorEq, ty3, ty9, ty33, e0, e1]
   refine (Index_a hX A' t 10).mono ?_
   rintro r A2 ⟨rfl, rfl⟩
   have hcnt := splitS_count t
   rcases ix_cases (ls t) 10 with ⟨h3, h4⟩ | ⟨a, b, h3, h4, h5⟩
   ·have := List.count_eq_zero_of_not_mem h4
    omega
   ·have hal : a.length + 1 + b.length = t.size := by have := congrArg List.length h3; rw [ls_length] at this; simp at this; omega
    have x1 : t.extract 0 a.length = bs a := by rw [bs_extract, h3]; simp
    have x2 : t.extract (a.length + 1) t.size = bs b := by
     rw [bs_extract, h3, ← List.singleton_append, ← List.append_assoc, List.drop_left' (by simp), List.take_of_length_le (by omega)]
    have hsc : splitS t = bs a :: splitS (bs b) := splitS_cut (by rw [ls_bs]; exact h4) (by rw [ls_bs, ls_bs]; exact h3)
    have hat : (splitS s)[i]? = some (bs a) := by rw [hnx (by omega), hsc]; rfl
    have hbs : (bs b).size = b.length := bs_size b
    rw [h5]
    have hn0 : ¬ ((a.length : Int) < 0) := by omega
    obtain ⟨hs1, hs2⟩ := setCells_one cs i (.string (bs a)) (by omega)
    have htn2 : ((a.length : Int) + 1).toNat = a.length + 1 := by omega
    simp (maxSteps := 2000000) (disch := first | omega | (simp only [AH.zN, AH.zP] <;> omega) | fail) only [amR Tryd.prog ro X, amS, seval, reduceCtorEq, ty3, ty9, ty33, e0, e1, e2, e3, e9, e10, hg, hcl, hn0, h1, x1, htn2, x2]
    refine ⟨n - (i + 1), by omega, (by ((repeat' (first | exact Ext.refl _ | assumption | refine Ext.trans ?_ (Ext.new _ _) | refine Ext.put ?_ ?_ _ | refine Ext.trans ?_ (by assumption))) <;> (first | omega | (simp only [AH.zN, AH.zP] <;> omega)))), (by first | omega | (simp only [AH.zN, AH.zP] <;> omega)), i + 1, by omega, rfl, by simp, bs b, cs.set i (.string (bs a)), rfl, by omega, ?_, rfl, by rw [List.length_set, hcl], ?_⟩
    ·rw [List.take_add_one, hat, List.append_assoc]
     rw [hsc] at hsp
     exact hsp
    ·refine hs2.trans ?_
     rw [htk, List.take_add_one, hat]
     simp
  ·have hil : i = n := by simp at h; omega
   subst hil
   obtain ⟨hs1, hs2⟩ := setCells_one cs i (.string t) (by omega)
   have h4 : 10 ∉ ls t := by
    have := splitS_count t
    exact List.count_eq_zero.1 (by omega)
   have hat : (splitS s)[i]? = some t := by rw [hnx (by omega), splitS_one h4]; rfl
   have hall : setCells cs i [.string t] = (splitS s).map Value.string := by
    have e1 : setCells cs i [.string t] = (setCells cs i [.string t]).take (i + 1) := by rw [List.take_of_length_le (by rw [hs1, hcl]; exact Nat.le_refl _)]
    have e2 : splitS s = (splitS s).take (i + 1) := by rw [List.take_of_length_le (by rw [hlen]; exact Nat.le_refl _)]
    rw [e1, hs2, htk]
    conv => rhs; rw [e2, List.take_add_one, hat]
    simp
   have htn2 : ((i : Int) + 1).toNat = i + 1 := by omega
   have hall2 : cs.set i (.string t) = (splitS s).map Value.string := hall
   simp (maxSteps := 2000000) (disch := first | omega | (simp only [AH.zN, AH.zP] <;> omega) | fail) only [amR Tryd.prog ro X, amS, seval, reduceCtorEq, ty3, ty9, ty33, e0, e9, e10, hg, hcl, htn2, hall2]
   have hsl := fun H => cutN (P := Tryd.prog) (t := 33) (by simp only [ty33]) H A1.size (n := i + 1) (N := i + 1) (Nat.le_refl _) (by unfold BIG; omega)
   rw [show ((i + 1 : Nat) : Int) = (i : Int) + 1 from rfl] at hsl
   simp (maxSteps := 2000000) (disch := first | omega | (simp only [AH.zN, AH.zP] <;> omega) | fail) only [amR Tryd.prog ro X, amS, seval, reduceCtorEq, ty3, ty9, ty33, hsl]
   exact ⟨A1.size, by rw [hlen], Nat.le_refl _, (by first | omega | (simp only [AH.zN, AH.zP] <;> omega)), AH.gPs _ _ _, (by ((repeat' (first | exact Ext.refl _ | assumption | refine Ext.trans ?_ (Ext.new _ _) | refine Ext.put ?_ ?_ _ | refine Ext.trans ?_ (by assumption))) <;> (first | omega | (simp only [AH.zN, AH.zP] <;> omega))))⟩
theorem Split_a (hX : PX ro X) (A : AH) (hro : ro ≤ A.size) (s : ByteArray) (hs : s.size < 1073741824) :
 ACalls Tryd.prog ro X 94 [.string s, .string ⟨#[10]⟩] A (fun r A' => ∃ b, r = .ret (Sl.mk false b 0 (splitS s).length (splitS s).length).v ∧ A.size ≤ b ∧ b < A'.size ∧ A'.get b = .cells ((splitS s).map Value.string) 1 ∧ Ext A A') := by
 refine ACalls.enterQ (rs := [.tmp 4]) Tryd.func94 rfl (by kernel_rfl) rfl ?_
 simp (maxSteps := 2000000) (disch := first | omega | (simp only [AH.zN, AH.zP] <;> omega) | fail) only [amR Tryd.prog ro X, amS, seval, reduceCtorEq, ty33]
 refine (genSplit_a hX A hro s hs).mono ?_
 rintro r A1 ⟨b, rfl, h1, h2, h3, h4⟩
 simp (maxSteps := 2000000) (disch := first | omega | (simp only [AH.zN, AH.zP] <;> omega) | fail) only [amR Tryd.prog ro X, amS, seval, reduceCtorEq, ty33]
 exact ⟨b, rfl, h1, h2, h3, h4⟩
theorem lCut_a (hX : PX ro X) (A : AH) (s : ByteArray) (hs : s.size < 1073741824) :
 ACalls Tryd.prog ro X 205 [.string s, .string ⟨#[32]⟩] A (fun r A' => r = .ret (.tuple #[.string (cutS s).1, .string (cutS s).2.1, .bool (cutS s).2.2]) ∧ A' = A) := by
 refine ACalls.enterQ (rs := [.tmp 4, .tmp 5, .tmp 6]) Tryd.func205 rfl (by kernel_rfl) rfl ?_
 simp (maxSteps := 2000000) (disch := first | omega | (simp only [AH.zN, AH.zP] <;> omega) | fail) only [amR Tryd.prog ro X, amS, seval, reduceCtorEq, ty3, ty9, ty33]
 refine (lIndex_a hX A s 32).mono ?_
 rintro r A1 ⟨rfl, rfl⟩
 have h1 : (⟨#[32]⟩ : ByteArray).size = 1 := rfl
 rcases ix_cases (ls s) 32 with ⟨h3, h4⟩ | ⟨a, b, h3, h4, h5⟩
 ·rw [h3, cutS_none h4]
  simp (maxSteps := 2000000) (disch := first | omega | (simp only [AH.zN, AH.zP] <;> omega) | fail) only [amR Tryd.prog ro X, amS, seval, reduceCtorEq, ty3, ty9, ty33]
 ·have hal : a.length + 1 + b.length = s.size := by have := congrArg List.length h3; rw [ls_length] at this; simp at this; omega
  have hcs : cutS s = (bs a, bs b, true) := by unfold cutS; rw [h3, cutL_at _ h4]
  have x1 : s.extract 0 a.length = bs a := by rw [bs_extract, h3]; simp
  have x2 : s.extract (a.length + 1) s.size = bs b := by
   rw [bs_extract, h3, ← List.singleton_append, ← List.append_assoc, List.drop_left' (by simp), List.take_of_length_le (by omega)]
  rw [h5, hcs]
  have hn0 : (0 : Int) ≤ (a.length : Int) := by omega
  have htn2 : ((a.length : Int) + 1).toNat = a.length + 1 := by omega
  simp (maxSteps := 2000000) (disch := first | omega | (simp only [AH.zN, AH.zP] <;> omega) | fail) only [amR Tryd.prog ro X, amS, seval, reduceCtorEq, ty3, ty9, ty33, hn0]
  refine Wp.runG [] (by kernel_rfl) (.inr (by intro v e A h; simp only [amK, amQ, thenQ, blockQ, endQ, reduceCtorEq, false_and, exists_false] at h)) ?_
  simp (maxSteps := 2000000) (disch := first | omega | (simp only [AH.zN, AH.zP] <;> omega) | fail) only [amR Tryd.prog ro X, amS, seval, reduceCtorEq, ty3, ty9, ty33, h1, x1, htn2, x2]
theorem Cut_a (hX : PX ro X) (A : AH) (s : ByteArray) (hs : s.size < 1073741824) :
 ACalls Tryd.prog ro X 149 [.string s, .string ⟨#[32]⟩] A (fun r A' => r = .ret (.tuple #[.string (cutS s).1, .string (cutS s).2.1, .bool (cutS s).2.2]) ∧ A' = A) := by
 refine ACalls.enterQ (rs := [.tmp 4, .tmp 5, .tmp 6]) Tryd.func149 rfl (by kernel_rfl) rfl ?_
 simp (maxSteps := 2000000) (disch := first | omega | (simp only [AH.zN, AH.zP] <;> omega) | fail) only [amR Tryd.prog ro X, amS, seval, reduceCtorEq, ty33]
 refine (lCut_a hX A s hs).mono ?_
 rintro r A1 ⟨rfl, rfl⟩
 simp (maxSteps := 2000000) (disch := first | omega | (simp only [AH.zN, AH.zP] <;> omega) | fail) only [amR Tryd.prog ro X, amS, seval, reduceCtorEq, ty33]
end Go.Proofs.YtjlbcofopapajaaDoor.Amu.Split
