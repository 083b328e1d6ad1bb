import Derived.Test.YtmelgjblkmbhjaaDoorAmuTy
import Derived.Test.YtmelgjblkmbhjaaDoorAmMake
import Derived.Test.YtmelgjblkmbhjaaDoorAmSpk
import Derived.Test.YtmelgjblkmbhjaaDoorAmuProg
import Derived.Test.YtmelgjblkmbhjaaDoorAmuMk
import Derived.Test.YtmelgjblkmbhjaaDoorAmuNewM
import Derived.Test.YtmelgjblkmbhjaaDoorAmuWhole
import Derived.Test.YtmelgjblkmbhjaaDoorAmuSpace2
namespace Go.Proofs.YtmelgjblkmbhjaaDoor.Amu.Clean
open Go Go.AM Go.Proofs
set_option linter.unusedVariables false
set_option linter.unusedSimpArgs false
open Ty
variable {ro : Nat} {X : FuncId → List Value → AH → ARes → AH → Prop}
set_option maxRecDepth 10000
open Mk (J0 J0_ok CS under_all)
theorem room0 {sp : TSpace} (hf : SpaceFine sp) : Room 202 sp 1 (shop0) := by
 unfold Room
 have h1 : sp.2.length - (AM.begun sp (shop0)).length ≤ 200 := by have := hf.l2; omega
 have h2 := Nat.mul_le_mul_left 202 h1
 show 0 + 1 + _ < _
 omega
set_option maxHeartbeats 4000000 in
theorem impl_a (hXD : ∀ f args A r A', XD Tryd.prog Tryd.prog.globals.size ro (fun _ _ _ _ _ => False) f args A r A' → X f args A r A') (A : AH) (hro : ro ≤ A.size) (hT : Tab 0 A) (hP : Pow 1 A) (s1 s2 : Sl) (sp : TSpace) (F1 F2 : List Nat) (h1 : SlR A s1 sp.1 F1) (h2 : SlR A s2 sp.2 F2)
 (hl1' : sp.1.length < 1152921504606846976) (hl2' : sp.2.length < 1152921504606846976) (n : ByteArray) :
 ACalls Tryd.prog ro X 48 [.agg #[s1.v, s2.v], .string n] A (fun r A' => ∃ cs G, r = .ret (.agg cs.toArray) ∧ Dat.rep A' (cleanR sp n) cs G ∧ Fresh A G A' ∧ Ext A A') := by
 refine ACalls.enterQ (rs := [.cell 4 91]) Tryd.func48 rfl (by kernel_rfl) rfl ?_
 simp (maxSteps := 2000000) (disch := first | omega | (simp only [AH.zN, AH.zP] <;> omega) | fail) only [amR Tryd.prog ro X, amS, seval, reduceCtorEq, ty3, ty4, ty9, ty43, ty60, ty61, ty63, ty91]
 generalize hH : AH.new (A.new _) _ = H
 have zH : H.size = A.size + 2 := by rw [← hH]; rfl
 have hEH : Ext A H := by rw [← hH]; exact (by ((repeat' (first | exact Ext.refl _ | assumption | refine Ext.trans ?_ (Ext.new _ _) | refine Ext.put ?_ ?_ _ | refine Ext.trans ?_ (by assumption))) <;> (first | omega | (simp only [AH.zN, AH.zP] <;> omega))))
 have ga : H.get A.size = .cells [s1.v, s2.v] 2 := by rw [← hH]; simp (maxSteps := 2000000) (disch := first | omega | (simp only [AH.zN, AH.zP] <;> omega) | fail) only [amV, amH, amQ, amL, amN Tryd.prog, amS, seval, reduceCtorEq, ty3, ty4, ty9, ty43, ty60, ty61, ty63, ty91]
 have gb : H.get (A.size + 1) = .cells [.int .i64 0, .string ByteArray.empty, Sl.nil.v] 3 := by rw [← hH]; exact AH.gNs _ _
 clear hH
 have hz9 : Dat.rep A ((9, ⟨#[]⟩, []) : TResult) [.int .i64 9, .string ByteArray.empty, Sl.nil.v] [] := rep_Result.2 ⟨_, _, rfl, rfl, by show 0 < BIG; unfold BIG; omega, .nil rfl rfl rfl⟩
 refine (Space2.implCheck_a H (by omega) (hT.ext hEH) s1 s2 sp F1 F2 (h1.ext hEH) (h2.ext hEH) hl1' hl2').mono ?_
 rintro r H1 ⟨rfl, hE1⟩
 have z1 := hE1.size
 have hEA1 := hEH.trans hE1
 have ga1 := (hE1.get A.size (by omega)).trans ga
 have gb1 := (hE1.get (A.size + 1) (by omega)).trans gb
 by_cases k1 : spaceCode sp = 0
 case neg =>
  simp (disch := first | omega | fail) only [amR Tryd.prog ro X, amS, seval, reduceCtorEq, ty3, ty4, ty9, ty43, ty60, ty61, ty63, ty91, ga1, gb1, k1]
  have e : cleanR sp n = (9, ⟨#[]⟩, []) := if_pos (.inl k1)
  have hE : Ext A (H1.put (A.size + 1) (.cells [.int .i64 9, .string ByteArray.empty, Sl.nil.v] 3)) := hEA1.put (by omega) _
  exact ⟨_, _, rfl, by rw [e]; exact Dat.ext hz9 hE, Fresh.nil _ _, hE⟩
 simp (disch := first | omega | fail) only [amR Tryd.prog ro X, amS, seval, reduceCtorEq, ty3, ty4, ty9, ty43, ty60, ty61, ty63, ty91, ga1, gb1, k1]
 refine (Store.impl.isName_a _ n).mono ?_
 rintro r H1 ⟨rfl, rfl⟩
 by_cases k2 : NameOk n
 case neg =>
  simp (disch := first | omega | fail) only [amR Tryd.prog ro X, amS, seval, reduceCtorEq, ty3, ty4, ty9, ty43, ty60, ty61, ty63, ty91, ga1, gb1, k2]
  have e : cleanR sp n = (9, ⟨#[]⟩, []) := if_pos (.inr k2)
  have hE : Ext A (H1.put (A.size + 1) (.cells [.int .i64 9, .string ByteArray.empty, Sl.nil.v] 3)) := hEA1.put (by omega) _
  exact ⟨_, _, rfl, by rw [e]; exact Dat.ext hz9 hE, Fresh.nil _ _, hE⟩
 have hf := spaceFine k1
 simp (disch := first | omega | fail) only [amR Tryd.prog ro X, amS, seval, reduceCtorEq, ty3, ty4, ty9, ty43, ty60, ty61, ty63, ty91, ga1, gb1, k2]
 refine (NewM.new_a (σ := CS) H1 (by omega) s1 s2 sp F1 F2 (h1.ext hEA1) (h2.ext hEA1) hf.l1 hf.l2 hf.n1 hf.n2 []).mono ?_
 rintro r H2 ⟨K, rfl, hE2, hKs, hKB, hKt, hfv, hV⟩
 have z2 := hE2.size
 have gb2 := (hE2.get (A.size + 1) (by omega)).trans gb1
 simp (disch := first | omega | fail) only [amR Tryd.prog ro X, amS, seval, reduceCtorEq, ty3, ty4, ty9, ty43, ty60, ty61, ty63, ty91]
 have hEA2 := hEA1.trans hE2
 have hun := under_all (ro := ro) (X := fun _ _ _ _ _ => False) (pv := EndV 257 K.top) (by rw [hKB]; omega) (by rw [hKB]; exact hT.ext hEA1) (by rw [hKB]; exact hP.ext hEA1) (fun e v A h => h) hfv (by rw [hKs]; exact hf.ok) 60
 obtain ⟨b1, b2, b3, b4, b5, b6, b7⟩ := hV.k.nums
 have hKBz : K.B.size = H1.size := by rw [hKB]
 have hbd := hV.bound
 obtain ⟨v, H3, hx, s, F, rfl, hs, hF, ⟨os3, ms3, es33, es43, FJ3, v3, x3, y3⟩⟩ := Whole.whole_a (ro := ro) (X := fun _ _ _ _ _ => False) (by rw [hKB]; omega) (J0_ok _) hun H2 shop0 .nil .nil [] [] [] (by omega) hV (shop0_ok _) rfl n k2 (by rw [hKs]; exact room0 hf)
 refine ⟨_, H3, .ext (hXD _ _ _ _ _ hx), ?_⟩
 have z3 := x3.size
 have hE3 : Ext A H3 := ⟨by omega, fun b hb => (x3.get b (by omega) fun hm => by
  rcases mem_ftp.1 hm with e | e | e | ⟨e, _⟩ | ⟨e, _⟩ | e <;> first | omega | cases e).trans (hEA2.get b hb)⟩
 have gb3 := (x3.get (A.size + 1) (by omega) fun hm => by
  rcases mem_ftp.1 hm with e | e | e | ⟨e, _⟩ | ⟨e, _⟩ | e <;> first | omega | cases e).trans gb2
 have e : cleanR sp n = resOf (cleanS sp n).2 := if_neg (by rintro (h | h); exact h k1; exact h k2)
 have hc : (underG (cleanMk K.sp) K.sp 60 shop0 n) = cleanS sp n := by rw [hKs]; rfl
 rw [hc] at hs ⊢
 have hsz := cleanR_sz sp n
 have ez : Mk.sz (cleanR sp n) = 0 + ((cleanR sp n).2.1.size + szL Mk.sz (cleanR sp n).2.2) := rfl
 rw [ez] at hsz
 rw [e] at hsz ⊢
 generalize resOf (cleanS sp n).2 = rr at *
 simp (disch := first | omega | fail) only [amR Tryd.prog ro X, amS, seval, reduceCtorEq, ty3, ty4, ty9, ty43, ty60, ty61, ty63, ty91, gb3]
 have hX : ExtX [A.size + 1] H3 (H3.put (A.size + 1) (.cells [.int .i64 rr.1, .string rr.2.1, s.v] 3)) := (ExtX.refl _ _).put (by simp) _
 obtain ⟨F', hs', hnd, hsub⟩ := hs.nodupF nofoot_Str
 refine ⟨_, F', rfl, rep_Result.2 ⟨s, F', rfl, rfl, by unfold BIG; omega, hs'.extx hX (fun b hb => by have := hF b (hsub b hb); simp only [List.mem_singleton]; omega)⟩, ⟨hnd, fun b hb => by have := hF b (hsub b hb); omega, fun b hb => by have := hF b (hsub b hb); simp only [AH.zP]; omega⟩, hE3.put (by omega) _⟩
end Go.Proofs.YtmelgjblkmbhjaaDoor.Amu.Clean
