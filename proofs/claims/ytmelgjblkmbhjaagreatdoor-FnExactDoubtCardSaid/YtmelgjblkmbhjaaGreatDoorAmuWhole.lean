import Derived.Test.YtmelgjblkmbhjaaGreatDoorAmuTy
import Derived.Test.YtmelgjblkmbhjaaGreatDoorAmMake
import Derived.Test.YtmelgjblkmbhjaaGreatDoorAmSpk
import Derived.Test.YtmelgjblkmbhjaaGreatDoorAmuProg
import Derived.Test.YtmelgjblkmbhjaaGreatDoorAmuMk
namespace Go.Proofs.YtmelgjblkmbhjaaGreatDoor.Amu.Whole
open Go Go.AM Go.Proofs
set_option linter.all false
open Ty
variable {ro : Nat} {X : FuncId → List Value → AH → ARes → AH → Prop} {σ : Type}
set_option maxRecDepth 10000
theorem res_none {P : Program} {A : AH} {e : Env} {fn : Func} (h : fn.results.toList = []) : aResults P A e fn = some (.tuple #[]) := by
 unfold aResults
 rw [h]
 rfl
theorem res_cell {P : Program} {A : AH} {e : Env} {fn : Func} {a t b : Nat} {x y z : Value} (h : fn.results.toList = [.cell a t]) (he : e a = .pointer (some ⟨b, 0, none⟩)) (h1 : tAgg P t = some true) (h2 : tSize P t = some 3) (g : A.get b = .cells [x, y, z] 3) : aResults P A e fn = some (.agg #[x, y, z]) := by
 unfold aResults
 rw [h, aResVals_cell, he]
 unfold resCell
 simp only [h1, h2, aLoadK, aRow_eq, g, rowK]
 rfl
set_option maxHeartbeats 4000000 in
theorem whole_a {K : Mkc} {J : AH → σ → List Nat → Prop} {C : Nat} {und : Under σ} (hB : ro ≤ K.B.size) (hJ : JOk K.top J) (hU : UndC Tryz.prog ro X 96 K J (EndV 168 K.top) C 60 und)
 (A : AH) (S : Shop σ) (os ms : Sl) (es3 es4 : SMap) (FJ : List Nat) (hro : ro ≤ A.size) (hV : MkV K J A S os ms es3 es4 FJ) (hS : ShopOk K.sp S) (hst : S.stack = []) (n : ByteArray) (hn : NameOk n) (hRm : Room C K.sp 1 S) :
 ∃ v A', XD Tryz.prog Tryz.prog.globals.size ro X 47 [.pointer (some ⟨K.p, 0, none⟩), .string n] A (.ret v) A' ∧
   (∃ (s : Sl) (F : List Nat), v = .agg #[.int .i64 (resOf (und S n).2).1, .string (resOf (und S n).2).2.1, s.v] ∧ SlR A' s (resOf (und S n).2).2.2 F ∧ (∀ b ∈ F, K.top ≤ b ∧ b < A'.size) ∧ MkStep K J A (ftp K os ms FJ) (und S n).1 A') := by
 have hbd := hV.bound
 have hnA : A.size ∉ ftp K os ms FJ := fun hm => by have := (hbd _ hm).1; omega
 have htop := hV.k.top
 obtain ⟨b1, b2, b3, b4, b5, b6, b7⟩ := hV.k.nums
 refine XD.walk (M := fun e A1 => Ext A A1 ∧ A1.size = A.size + 1 ∧ e 0 = .pointer (some ⟨K.p, 0, none⟩) ∧ e 1 = .string n ∧ e 4 = .pointer (some ⟨A.size, 0, none⟩) ∧ A1.get A.size = .cells [.int .i64 0, .string ByteArray.empty, Sl.nil.v] 3)
  (N := fun e1 e2 A2 => e1 4 = .pointer (some ⟨A.size, 0, none⟩) ∧ e2 4 = .pointer (some ⟨A.size, 0, none⟩) ∧ ∃ x, (und S n).2 = .ok x ∧ A.size < A2.size ∧ A2.get A.size = .cells [.int .i64 x.1, .string x.2, Sl.nil.v] 3 ∧ MkStep K J A (ftp K os ms FJ) (und S n).1 A2)
  (C := fun e1 p e2 A2 => e1 4 = .pointer (some ⟨A.size, 0, none⟩) ∧ e2 4 = .pointer (some ⟨A.size, 0, none⟩) ∧ ∃ e, (und S n).2 = .error e ∧ EndV 168 K.top e p A2 ∧ A.size < A2.size ∧ A2.get A.size = .cells [.int .i64 0, .string ByteArray.empty, Sl.nil.v] 3 ∧
    ∃ os2 ms2 es32 es42 FJ2, MkV K J A2 (und S n).1 os2 ms2 es32 es42 FJ2 ∧ ExtX (ftp K os ms FJ) A A2 ∧ (∀ b ∈ ftp K os2 ms2 FJ2, b ∈ ftp K os ms FJ ∨ A.size < b) ∧ ∀ r, e = .ended r → ∃ s F, p = .iface 168 (.agg #[.int .i64 r.1, .string r.2.1, s.v]) ∧ SlR A2 s r.2.2 F ∧ (∀ b ∈ F, K.top ≤ b ∧ b < A2.size ∧ b ≠ A.size))
  (Q := fun v A' => (∃ (s : Sl) (F : List Nat), v = .agg #[.int .i64 (resOf (und S n).2).1, .string (resOf (und S n).2).2.1, s.v] ∧ SlR A' s (resOf (und S n).2).2.2 F ∧ (∀ b ∈ F, K.top ≤ b ∧ b < A'.size) ∧ MkStep K J A (ftp K os ms FJ) (und S n).1 A'))
  ⟨Tryz.func47, rfl, by kernel_rfl, by kernel_rfl, ⟨rfl, rfl, rfl⟩, ⟨rfl, rfl, rfl⟩, Tryz.func95, rfl, by kernel_rfl, by kernel_rfl, ⟨rfl, rfl, rfl⟩, ⟨rfl, rfl, rfl⟩⟩ (Nat.le_of_ble_eq_true rfl) ?_ ?_ ?_ ?_
 ·refine RunC.sound _ _ _ _ ?_
  simp (disch := first | omega | fail) only [amR Tryz.prog ro X, amS, seval, reduceCtorEq, ty3, ty9, ty22, ty79, ty168]
  exact Ext.new _ _
 ·rintro e1 A1 ⟨hE, hz, e0, e1', e4, gr⟩
  refine RunC.sound _ _ _ _ ?_
  simp (disch := first | omega | fail) only [amR Tryz.prog ro X, amS, seval, reduceCtorEq, ty3, ty9, ty22, ty79, ty168, e0, e1', e4]
  refine (hU A1 S os ms es3 es4 FJ n (by omega) (hV.ext hJ hE) hS hn hRm (by rw [hst]; rfl)).mono ?_
  rintro R A2 ⟨⟨os2, ms2, es32, es42, FJ2, v2, x2, y2⟩, hR⟩
  have z2 := x2.size
  have gr2 := (x2.get A.size (by omega) hnA).trans gr
  have hX2 : ExtX (ftp K os ms FJ) A A2 := (hE.x _).trans x2
  have hy2 : ∀ b ∈ ftp K os2 ms2 FJ2, b ∈ ftp K os ms FJ ∨ A.size < b := fun b hb => by
   rcases y2 b hb with h | h
   ·exact .inl h
   ·exact .inr (by omega)
  have hn2 : A.size ∉ ftp K os2 ms2 FJ2 := fun hm => by
   rcases hy2 _ hm with h | h
   ·exact hnA h
   ·omega
  cases hres : (und S n).2 with
  | ok x =>
    rw [hres] at hR
    obtain rfl : R = .ret (madeV x) := hR
    simp only [madeV]
    simp (disch := first | omega | fail) only [amR Tryz.prog ro X, amS, seval, reduceCtorEq, ty3, ty9, ty22, ty79, ty168, e0, e1', e4, gr2]
    refine .inl ⟨x, rfl, by omega, rfl, v2.done hJ hX2 (fun b hb => (hy2 b hb).imp id fun h => by omega) (L := [A.size]) ((ExtX.refl _ _).put (by simp) _) fun b hb => ?_⟩
    rw [List.mem_singleton.1 hb]
    exact ⟨by omega, Nat.le_refl _, hn2⟩
  | error e =>
    rw [hres] at hR
    obtain ⟨v, rfl, hv⟩ := hR
    simp (disch := first | omega | fail) only [amR Tryz.prog ro X, amS, seval, reduceCtorEq, ty3, ty9, ty22, ty79, ty168, e0, e1', e4, gr2]
    refine ⟨v, rfl, e, rfl, hv, by omega, os2, ms2, es32, es42, FJ2, v2, hX2, hy2, fun r hr => ?_⟩
    subst hr
    obtain ⟨s, F, h1, h2, h3⟩ := hv
    refine ⟨s, F, h1, h2, fun b hb => ⟨(h3 b hb).1, (h3 b hb).2, ?_⟩⟩
    obtain ⟨c, hc⟩ := h2.rows nofoot_Str b hb
    exact cells_ne hc gr2 (by decide)
 ·rintro e1 e2 A2 ⟨h4, h4', x, hx, hz, gr, hX⟩
  refine RunC.sound _ _ _ _ ?_
  unfold gEnv
  simp (disch := first | omega | fail) only [amR Tryz.prog ro X, amS, seval, reduceCtorEq, ty3, ty4, ty9, ty20, ty22, ty79, ty168, h4, h4', gr]
  rw [hx]
  exact ⟨⟨_, res_none rfl⟩, _, res_cell (t := 79) rfl h4' (by simp only [ty79]) (by simp only [ty79]) gr, .nil, [], rfl, .nil rfl rfl rfl, by simp, hX⟩
 ·rintro e1 p e2 A2 ⟨h4, h4', e, he, hend, hz, gr, os2, ms2, es32, es42, FJ2, v2, hX2, hy2, hch⟩
  refine RunC.sound _ _ _ _ ?_
  unfold gEnv
  cases e with
  | refused c a b => exact hend.elim
  | ended r =>
  obtain ⟨s, F, rfl, hs, hF⟩ := hch r rfl
  have ta := amTA Tryz.prog ro X
  simp (disch := first | omega | fail) only [amR Tryz.prog ro X, amS, seval, reduceCtorEq, ty3, ty4, ty9, ty20, ty22, ty79, ty168, h4, h4', gr, ta]
  rw [he]
  generalize hH3 : AH.put (A2.new _) A2.size _ = H3
  have z3 : H3.size = A2.size + 1 := by rw [← hH3]; rfl
  have hE3 : Ext A2 H3 := by rw [← hH3]; exact (by ((repeat' (first | exact Ext.refl _ | assumption | refine Ext.trans ?_ (Ext.new _ _) | refine Ext.put ?_ ?_ _ | refine Ext.trans ?_ (by assumption))) <;> (first | omega | (simp only [AH.zN, AH.zP] <;> omega))))
  clear hH3
  have hX4 : ExtX [A.size] H3 (H3.put A.size (.cells [.int .i64 r.1, .string r.2.1, s.v] 3)) := (ExtX.refl _ _).put (by simp) _
  have hn2 : A.size ∉ ftp K os2 ms2 FJ2 := fun hm => by
   rcases hy2 _ hm with h | h
   ·exact hnA h
   ·omega
  refine ⟨⟨_, res_none rfl⟩, _, res_cell (t := 79) rfl h4' (by simp only [ty79]) (by simp only [ty79]) (AH.gPs _ _ _), s, F, rfl, (hs.ext hE3).extx hX4 (fun b hb => by simp only [List.mem_singleton]; exact (hF b hb).2.2), fun b hb => ?_, ?_⟩
  ·have := hF b hb
   exact ⟨this.1, by omega⟩
  ·refine (v2.ext hJ hE3).done hJ (hX2.trans (hE3.x _)) (fun b hb => (hy2 b hb).imp id fun h => by omega) (L := [A.size]) hX4 fun b hb => ?_
   rw [List.mem_singleton.1 hb]
   exact ⟨by omega, Nat.le_refl _, hn2⟩
end Go.Proofs.YtmelgjblkmbhjaaGreatDoor.Amu.Whole
