import Derived.Test.YtmelgjblkmbhjaaGreatDoorAmuTy
import Derived.Test.YtmelgjblkmbhjaaGreatDoorAmMake
import Derived.Test.YtmelgjblkmbhjaaGreatDoorAmuProg
namespace Go.Proofs.YtmelgjblkmbhjaaGreatDoor.Amu.Has
open Go Go.AM Go.Proofs
set_option linter.all false
open Ty
variable {ro : Nat} {X : FuncId → List Value → AH → ARes → AH → Prop} {σ : Type}
set_option maxRecDepth 10000
theorem has_a (A : AH) (hro : ro ≤ A.size) {K : Mkc} {J : AH → σ → List Nat → Prop} {S : Shop σ} {os ms : Sl} {es3 es4 : SMap} {FJ : List Nat} (h : MkV K J A S os ms es3 es4 FJ) (n : ByteArray) :
 ACalls Tryz.prog ro X 139 [.pointer (some ⟨K.p, 0, none⟩), .string n] A (fun r A' => r = .ret (.bool (hasR K.sp n)) ∧ Ext A A') := by
 obtain ⟨es1, g1, m1⟩ := h.k.src
 obtain ⟨es2, g2, m2⟩ := h.k.tgt
 have gp := h.gp
 unfold mcV at gp
 have hl1 := look2 (P := Tryz.prog) (t := 81) (e := 9) (z := .string ⟨#[]⟩) (by simp only [ty81]) (by simp only [ty9]; rfl) g1 n
 have hl2 := look2 (P := Tryz.prog) (t := 82) (e := 58) (z := .agg #[Sl.nil.v]) (by simp only [ty82]) (by simp only [ty58]; rfl) g2 n
 rw [m1 n] at hl1
 refine ACalls.enterQ (rs := [.tmp 4]) Tryz.func139 rfl (by kernel_rfl) rfl ?_
 unfold hasR
 cases hs : srcR K.sp n with
 | none =>
   rw [hs] at hl1
   simp only [Option.map_none] at hl1
   cases ht : tgtR K.sp n with
   | none =>
     rw [(m2 n).1 ht] at hl2
     simp only at hl2
     simp (disch := first | omega | fail) only [amR Tryz.prog ro X, amS, seval, reduceCtorEq, ty9, ty22, ty56, ty58, ty81, ty82, ty83, ty84, ty85, ty87, gp, hl1, hl2]
     exact ⟨rfl, (by ((repeat' (first | exact Ext.refl _ | assumption | refine Ext.trans ?_ (Ext.new _ _) | refine Ext.put ?_ ?_ _ | refine Ext.trans ?_ (by assumption))) <;> (first | omega | (simp only [AH.zN, AH.zP] <;> omega))))⟩
   | some q =>
     obtain ⟨s, F, k1, k2⟩ := (m2 n).2 q ht
     rw [k1] at hl2
     simp only at hl2
     simp (disch := first | omega | fail) only [amR Tryz.prog ro X, amS, seval, reduceCtorEq, ty9, ty22, ty56, ty58, ty81, ty82, ty83, ty84, ty85, ty87, gp, hl1, hl2]
     exact ⟨rfl, (by ((repeat' (first | exact Ext.refl _ | assumption | refine Ext.trans ?_ (Ext.new _ _) | refine Ext.put ?_ ?_ _ | refine Ext.trans ?_ (by assumption))) <;> (first | omega | (simp only [AH.zN, AH.zP] <;> omega))))⟩
 | some x =>
   rw [hs] at hl1
   simp only [Option.map_some] at hl1
   cases ht : tgtR K.sp n with
   | none =>
     rw [(m2 n).1 ht] at hl2
     simp only at hl2
     simp (disch := first | omega | fail) only [amR Tryz.prog ro X, amS, seval, reduceCtorEq, ty9, ty22, ty56, ty58, ty81, ty82, ty83, ty84, ty85, ty87, gp, hl1, hl2]
     exact ⟨rfl, (by ((repeat' (first | exact Ext.refl _ | assumption | refine Ext.trans ?_ (Ext.new _ _) | refine Ext.put ?_ ?_ _ | refine Ext.trans ?_ (by assumption))) <;> (first | omega | (simp only [AH.zN, AH.zP] <;> omega))))⟩
   | some q =>
     obtain ⟨s, F, k1, k2⟩ := (m2 n).2 q ht
     rw [k1] at hl2
     simp only at hl2
     simp (disch := first | omega | fail) only [amR Tryz.prog ro X, amS, seval, reduceCtorEq, ty9, ty22, ty56, ty58, ty81, ty82, ty83, ty84, ty85, ty87, gp, hl1, hl2]
     exact ⟨rfl, (by ((repeat' (first | exact Ext.refl _ | assumption | refine Ext.trans ?_ (Ext.new _ _) | refine Ext.put ?_ ?_ _ | refine Ext.trans ?_ (by assumption))) <;> (first | omega | (simp only [AH.zN, AH.zP] <;> omega))))⟩
end Go.Proofs.YtmelgjblkmbhjaaGreatDoor.Amu.Has
