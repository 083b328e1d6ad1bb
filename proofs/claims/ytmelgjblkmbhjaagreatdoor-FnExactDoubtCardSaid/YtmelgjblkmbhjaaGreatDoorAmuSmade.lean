import Derived.Test.YtmelgjblkmbhjaaGreatDoorAmuTy
import Derived.Test.YtmelgjblkmbhjaaGreatDoorAmSpk
import Derived.Test.YtmelgjblkmbhjaaGreatDoorAmuProg
import Derived.Test.YtmelgjblkmbhjaaGreatDoorAmuSpace
import Derived.Test.YtmelgjblkmbhjaaGreatDoorAmuSmk
import Derived.Test.YtmelgjblkmbhjaaGreatDoorAmuSrun
import Derived.Test.YtmelgjblkmbhjaaGreatDoorAmuSmake
namespace Go.Proofs.YtmelgjblkmbhjaaGreatDoor.Amu.Smade
open Go Go.AM Go.Proofs
set_option linter.all false
open Ty
variable {ro : Nat} {X : FuncId → List Value → AH → ARes → AH → Prop}
set_option maxRecDepth 10000
theorem smake_all {K : Skc} (hB : ro ≤ K.B.size) (hl1 : K.sp.1.length ≤ 200) (hl2 : K.sp.2.length ≤ 200) (hsp : SpOk K.sp) : ∀ d, SMakeC Tryz.prog ro X 138 K d (underG (cleanMk K.sp) K.sp d)
 | 0 => Smake.smake_a hB hl1 hl2 hsp fun e h => by omega
 | d + 1 => Smake.smake_a hB hl1 hl2 hsp fun e h => by
   cases h
   exact Srun.srun_a hB hl1 hl2 (underG_ok hsp (cleanMk_ok (sp := K.sp)) d) (underG_goes hsp d) (smake_all hB hl1 hl2 hsp d)
def isErr : Except Stop TRes → Bool
 | .ok _ => false
 | .error _ => true
theorem l3Clean_a (A : AH) (hro : ro ≤ A.size) (s1 s2 : Sl) (sp : TSpace) (F1 F2 : List Nat) (h1 : SlR A s1 sp.1 F1) (h2 : SlR A s2 sp.2 F2) (hf : SpaceFine sp) (n : ByteArray) (hn : NameOk n) :
 ACalls Tryz.prog ro X 89 [.agg #[s1.v, s2.v], .string n] A (fun r A' => ∃ (K : Skc) (md st : Sl) (G : List Nat) (ch : Sl) (Fc : List Nat), r = .ret (.pointer (some ⟨K.p, 0, none⟩)) ∧ K.sp = sp ∧ Ext A A' ∧ A.size ≤ K.p ∧ A.size ≤ K.B.size ∧
  SpV K A' (cleanS sp n).1 md st G (resOf (cleanS sp n).2) ch (isErr (cleanS sp n).2) ∧ SlR A' ch (resOf (cleanS sp n).2).2.2 Fc ∧ ∀ b ∈ Fc, A.size ≤ b) := by
 refine ACalls.enterQ (rs := [.tmp 4]) Tryz.func89 rfl (by kernel_rfl) rfl ?_
 simp (maxSteps := 2000000) (disch := first | omega | (simp only [AH.zN, AH.zP] <;> omega) | fail) only [amR Tryz.prog ro X, amS, seval, reduceCtorEq, ty3, ty4, ty9, ty22, ty42, ty43, ty45, ty58, ty79, ty154, ty156]
 obtain ⟨K, hK⟩ : ∃ K : Skc, K = ⟨A.new (.cells [s1.v, s2.v] 2), A.size + 1, s1, s2, sp⟩ := ⟨_, rfl⟩
 generalize hH : AH.new (A.new _) _ = H
 have hBz : K.B.size = A.size + 1 := by rw [hK]; rfl
 have hKp : K.p = A.size + 1 := by rw [hK]
 have hKs : K.sp = sp := by rw [hK]
 have zH : H.size = A.size + 2 := by rw [← hH]; rfl
 have hEH : Ext A H := by rw [← hH]; exact (by ((repeat' (first | exact Ext.refl _ | assumption | refine Ext.trans ?_ (Ext.new _ _) | refine Ext.put ?_ ?_ _ | refine Ext.trans ?_ (by assumption))) <;> (first | omega | (simp only [AH.zN, AH.zP] <;> omega))))
 have hV : SpV K H shop0 .nil .nil [] x0R .nil false := by
  refine ⟨by rw [hK, ← hH]; exact Ext.new _ _, by omega, by omega, by omega, ⟨F1, by rw [hK]; exact h1.ext (Ext.new _ _)⟩, ⟨F2, by rw [hK]; exact h2.ext (Ext.new _ _)⟩, ?_, .nil, (fun h => by cases h), .nil, by simp⟩
  rw [hKp, ← hH, hK]
  exact AH.gNs _ _
 clear hH
 have hroom : Room 202 K.sp 1 shop0 := by
  rw [hKs]
  unfold Room
  have h1 : sp.2.length - (AM.begun sp (shop0)).length ≤ 200 := by have := hf.l2; omega
  have h2 := Nat.mul_le_mul_left 202 h1
  show 0 + 1 + _ < _
  omega
 rw [← hKp]
 refine (smake_all (K := K) (by omega) (by rw [hKs]; exact hf.l1) (by rw [hKs]; exact hf.l2) (by rw [hKs]; exact hf.ok) 60 H shop0 .nil .nil [] n (by omega) hV (InvS.shop0 _) (shop0_ok _) hn hroom rfl).mono ?_
 intro R H2 hR
 have hc : underG (cleanMk K.sp) K.sp 60 shop0 n = cleanS sp n := by rw [hKs]; rfl
 rw [hc] at hR
 generalize cleanS sp n = g at hR ⊢
 obtain ⟨S2, res⟩ := g
 have hff : ∀ {H3 : AH}, ExtX (ftpS K .nil .nil []) H H3 → Ext A H3 := fun h => ⟨by have := h.size; omega, fun b hb => (h.get b (by omega) fun hm => by rcases mem_ftpS.1 hm with e | ⟨e, _⟩ | ⟨e, _⟩ | e <;> first | omega | cases e).trans (hEH.get b hb)⟩
 cases res with
 | ok v =>
   obtain ⟨rfl, md, st, G, v2, x2, y2⟩ := hR
   replace v2 : SpV K H2 S2 md st G x0R .nil false := v2
   have gp2 := v2.gp
   unfold scV at gp2
   have z2 := x2.size
   have hp2 := v2.p1
   unfold madeV
   simp (maxSteps := 2000000) (disch := first | omega | (simp only [AH.zN, AH.zP] <;> omega) | fail) only [amR Tryz.prog ro X, amS, seval, reduceCtorEq, ty3, ty4, ty9, ty22, ty42, ty43, ty45, ty58, ty79, ty154, ty156, gp2]
   generalize hH4 : AH.put (H2.new _) H2.size _ = H4
   have z4 : H4.size = H2.size + 1 := by rw [← hH4]; rfl
   have hE4 : Ext H2 H4 := by rw [← hH4]; exact (by ((repeat' (first | exact Ext.refl _ | assumption | refine Ext.trans ?_ (Ext.new _ _) | refine Ext.put ?_ ?_ _ | refine Ext.trans ?_ (by assumption))) <;> (first | omega | (simp only [AH.zN, AH.zP] <;> omega))))
   clear hH4
   obtain ⟨v5, x5⟩ := (v2.ext hE4).over (A1 := H4.put K.p (.cells [K.s1.v, K.s2.v, md.v, st.v, .int .i64 v.1, .string v.2, Sl.nil.v, .bool false] 8)) (x' := (v.1, v.2, [])) (ch' := .nil) (dead' := false) (Nat.le_refl _) (fun b hb hp => AH.gPo hp) (AH.gPs _ _ _)
   refine ⟨K, md, st, G, .nil, [], rfl, hKs, ?_, by omega, by omega, v5, .nil rfl rfl rfl, by simp⟩
   exact ⟨by have := x5.size; omega, fun b hb => (AH.gPo (by omega)).trans ((hE4.get b (by omega)).trans ((hff x2).get b hb))⟩
 | error e =>
   obtain ⟨r, ch, Fc, rfl, rfl, hch, hFc, md, st, G, v2, x2, y2⟩ := hR
   replace v2 : SpV K H2 S2 md st G r ch true := v2
   have gp2 := v2.gp
   unfold scV at gp2
   have z2 := x2.size
   have hp2 := v2.p1
   unfold stopV
   simp (maxSteps := 2000000) (disch := first | omega | (simp only [AH.zN, AH.zP] <;> omega) | fail) only [amR Tryz.prog ro X, amS, seval, reduceCtorEq, ty3, ty4, ty9, ty22, ty42, ty43, ty45, ty58, ty79, ty154, ty156, gp2]
   generalize hH4 : AH.put (H2.new _) H2.size _ = H4
   have z4 : H4.size = H2.size + 1 := by rw [← hH4]; rfl
   have hE4 : Ext H2 H4 := by rw [← hH4]; exact (by ((repeat' (first | exact Ext.refl _ | assumption | refine Ext.trans ?_ (Ext.new _ _) | refine Ext.put ?_ ?_ _ | refine Ext.trans ?_ (by assumption))) <;> (first | omega | (simp only [AH.zN, AH.zP] <;> omega))))
   clear hH4
   exact ⟨K, md, st, G, ch, Fc, rfl, hKs, (hff x2).trans hE4, by omega, by omega, v2.ext hE4, hch.ext hE4, fun b hb => by have := hFc b hb; omega⟩
end Go.Proofs.YtmelgjblkmbhjaaGreatDoor.Amu.Smade
