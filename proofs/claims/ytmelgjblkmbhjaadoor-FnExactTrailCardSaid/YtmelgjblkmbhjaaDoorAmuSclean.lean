import Derived.Test.YtmelgjblkmbhjaaDoorAmuTy
import Derived.Test.YtmelgjblkmbhjaaDoorAmSpk
import Derived.Test.YtmelgjblkmbhjaaDoorAmuProg
import Derived.Test.YtmelgjblkmbhjaaDoorAmuSpace
import Derived.Test.YtmelgjblkmbhjaaDoorAmuSmk
import Derived.Test.YtmelgjblkmbhjaaDoorAmuSrun
import Derived.Test.YtmelgjblkmbhjaaDoorAmuSmake
namespace Go.Proofs.YtmelgjblkmbhjaaDoor.Amu.Sclean
open Go Go.AM Go.Proofs
set_option linter.unusedVariables false
set_option linter.unusedSimpArgs false
open Ty
variable {ro : Nat} {X : FuncId → List Value → AH → ARes → AH → Prop}
set_option maxRecDepth 10000
theorem smake_all {K : Skc} (hB : ro ≤ K.B.size) (hl1 : K.sp.1.length ≤ 200) (hl2 : K.sp.2.length ≤ 200) (hsp : SpOk K.sp) : ∀ d, SMakeC Tryd.prog ro X 182 K d (underG (cleanMk K.sp) K.sp d)
 | 0 => Smake.smake_a hB hl1 hl2 hsp fun e h => by omega
 | d + 1 => Smake.smake_a hB hl1 hl2 hsp fun e h => by
   cases h
   exact Srun.srun_a hB hl1 hl2 (underG_ok hsp (cleanMk_ok (sp := K.sp)) d) (underG_goes hsp d) (smake_all hB hl1 hl2 hsp d)
def isErr : Except Stop TRes → Bool
 | .ok _ => false
 | .error _ => true
theorem l3Clean_a (A : AH) (hro : ro ≤ A.size) (s1 s2 : Sl) (sp : TSpace) (F1 F2 : List Nat) (h1 : SlR A s1 sp.1 F1) (h2 : SlR A s2 sp.2 F2) (hf : SpaceFine sp) (n : ByteArray) (hn : NameOk n) :
 ACalls Tryd.prog ro X 121 [.agg #[s1.v, s2.v], .string n] A (fun r A' => ∃ (K : Skc) (md st : Sl) (G : List Nat) (ch : Sl) (Fc : List Nat), r = .ret (.pointer (some ⟨K.p, 0, none⟩)) ∧ K.sp = sp ∧ Ext A A' ∧ A.size ≤ K.p ∧ A.size ≤ K.B.size ∧
  SpV K A' (cleanS sp n).1 md st G (resOf (cleanS sp n).2) ch (isErr (cleanS sp n).2) ∧ SlR A' ch (resOf (cleanS sp n).2).2.2 Fc ∧ ∀ b ∈ Fc, A.size ≤ b) := by
 refine ACalls.enterQ (rs := [.tmp 4]) Tryd.func121 rfl (by kernel_rfl) rfl ?_
 simp (maxSteps := 2000000) (disch := first | omega | (simp only [AH.zN, AH.zP] <;> omega) | fail) only [amR Tryd.prog ro X, amS, seval, reduceCtorEq, ty3, ty4, ty9, ty29, ty43, ty60, ty61, ty63, ty91, ty173, ty175]
 obtain ⟨K, hK⟩ : ∃ K : Skc, K = ⟨A.new (.cells [s1.v, s2.v] 2), A.size + 1, s1, s2, sp⟩ := ⟨_, rfl⟩
 generalize hH : AH.new (A.new _) _ = H
 have hBz : K.B.size = A.size + 1 := by rw [hK]; rfl
 have hKp : K.p = A.size + 1 := by rw [hK]
 have hKs : K.sp = sp := by rw [hK]
 have zH : H.size = A.size + 2 := by rw [← hH]; rfl
 have hEH : Ext A H := by rw [← hH]; exact (by ((repeat' (first | exact Ext.refl _ | assumption | refine Ext.trans ?_ (Ext.new _ _) | refine Ext.put ?_ ?_ _ | refine Ext.trans ?_ (by assumption))) <;> (first | omega | (simp only [AH.zN, AH.zP] <;> omega))))
 have hV : SpV K H shop0 .nil .nil [] x0R .nil false := by
  refine ⟨by rw [hK, ← hH]; exact Ext.new _ _, by omega, by omega, by omega, ⟨F1, by rw [hK]; exact h1.ext (Ext.new _ _)⟩, ⟨F2, by rw [hK]; exact h2.ext (Ext.new _ _)⟩, ?_, .nil, (fun h => by cases h), .nil, by simp⟩
  rw [hKp, ← hH, hK]
  exact AH.gNs _ _
 clear hH
 have hroom : Room 202 K.sp 1 shop0 := by
  rw [hKs]
  unfold Room
  have h1 : sp.2.length - (AM.begun sp (shop0)).length ≤ 200 := by have := hf.l2; omega
  have h2 := Nat.mul_le_mul_left 202 h1
  show 0 + 1 + _ < _
  omega
 rw [← hKp]
 refine (smake_all (K := K) (by omega) (by rw [hKs]; exact hf.l1) (by rw [hKs]; exact hf.l2) (by rw [hKs]; exact hf.ok) 60 H shop0 .nil .nil [] n (by omega) hV (InvS.shop0 _) (shop0_ok _) hn hroom rfl).mono ?_
 intro R H2 hR
 have hc : underG (cleanMk K.sp) K.sp 60 shop0 n = cleanS sp n := by rw [hKs]; rfl
 rw [hc] at hR
 generalize cleanS sp n = g at hR ⊢
 obtain ⟨S2, res⟩ := g
 have hff : ∀ {H3 : AH}, ExtX (ftpS K .nil .nil []) H H3 → Ext A H3 := fun h => ⟨by have := h.size; omega, fun b hb => (h.get b (by omega) fun hm => by rcases mem_ftpS.1 hm with e | ⟨e, _⟩ | ⟨e, _⟩ | e <;> first | omega | cases e).trans (hEH.get b hb)⟩
 cases res with
 | ok v =>
   obtain ⟨rfl, md, st, G, v2, x2, y2⟩ := hR
   replace v2 : SpV K H2 S2 md st G x0R .nil false := v2
   have gp2 := v2.gp
   unfold scV at gp2
   have z2 := x2.size
   have hp2 := v2.p1
   unfold madeV
   simp (disch := first | omega | fail) only [amR Tryd.prog ro X, amS, seval, reduceCtorEq, ty3, ty4, ty9, ty29, ty43, ty60, ty61, ty63, ty91, ty173, ty175, gp2]
   generalize hH4 : AH.put (H2.new _) H2.size _ = H4
   have z4 : H4.size = H2.size + 1 := by rw [← hH4]; rfl
   have hE4 : Ext H2 H4 := by rw [← hH4]; exact (by ((repeat' (first | exact Ext.refl _ | assumption | refine Ext.trans ?_ (Ext.new _ _) | refine Ext.put ?_ ?_ _ | refine Ext.trans ?_ (by assumption))) <;> (first | omega | (simp only [AH.zN, AH.zP] <;> omega))))
   clear hH4
   obtain ⟨v5, x5⟩ := (v2.ext hE4).over (A1 := H4.put K.p (.cells [K.s1.v, K.s2.v, md.v, st.v, .int .i64 v.1, .string v.2, Sl.nil.v, .bool false] 8)) (x' := (v.1, v.2, [])) (ch' := .nil) (dead' := false) (Nat.le_refl _) (fun b hb hp => AH.gPo hp) (AH.gPs _ _ _)
   refine ⟨K, md, st, G, .nil, [], rfl, hKs, ?_, by omega, by omega, v5, .nil rfl rfl rfl, by simp⟩
   exact ⟨by have := x5.size; omega, fun b hb => (AH.gPo (by omega)).trans ((hE4.get b (by omega)).trans ((hff x2).get b hb))⟩
 | error e =>
   obtain ⟨r, ch, Fc, rfl, rfl, hch, hFc, md, st, G, v2, x2, y2⟩ := hR
   replace v2 : SpV K H2 S2 md st G r ch true := v2
   have gp2 := v2.gp
   unfold scV at gp2
   have z2 := x2.size
   have hp2 := v2.p1
   unfold stopV
   simp (disch := first | omega | fail) only [amR Tryd.prog ro X, amS, seval, reduceCtorEq, ty3, ty4, ty9, ty29, ty43, ty60, ty61, ty63, ty91, ty173, ty175, gp2]
   generalize hH4 : AH.put (H2.new _) H2.size _ = H4
   have z4 : H4.size = H2.size + 1 := by rw [← hH4]; rfl
   have hE4 : Ext H2 H4 := by rw [← hH4]; exact (by ((repeat' (first | exact Ext.refl _ | assumption | refine Ext.trans ?_ (Ext.new _ _) | refine Ext.put ?_ ?_ _ | refine Ext.trans ?_ (by assumption))) <;> (first | omega | (simp only [AH.zN, AH.zP] <;> omega))))
   clear hH4
   exact ⟨K, md, st, G, ch, Fc, rfl, hKs, (hff x2).trans hE4, by omega, by omega, v2.ext hE4, hch.ext hE4, fun b hb => by have := hFc b hb; omega⟩
theorem l3Copy_a (A : AH) (hro : ro ≤ A.size) (c : Int) (t : ByteArray) (s : Sl) (l : List ByteArray) (F : List Nat) (h : SlR A s l F) (hl : l.length < 4294967296) :
 ACalls Tryd.prog ro X 120 [.agg #[.int .i64 c, .string t, s.v]] A (fun r A' => ∃ (s' : Sl) (F' : List Nat), r = .ret (.agg #[.int .i64 c, .string t, s'.v]) ∧ SlR A' s' l F' ∧ Fresh A F' A' ∧ Ext A A') := by
 refine ACalls.enterQ (rs := [.cell 2 91]) Tryd.func120 rfl (by kernel_rfl) rfl ?_
 simp (maxSteps := 2000000) (disch := first | omega | (simp only [AH.zN, AH.zP] <;> omega) | fail) only [amR Tryd.prog ro X, amS, seval, reduceCtorEq, ty3, ty9, ty29, ty43, ty63, ty91]
 generalize hH : AH.new (A.new _) _ = H
 have zH : H.size = A.size + 2 := by rw [← hH]; rfl
 have hEH : Ext A H := by rw [← hH]; exact (by ((repeat' (first | exact Ext.refl _ | assumption | refine Ext.trans ?_ (Ext.new _ _) | refine Ext.put ?_ ?_ _ | refine Ext.trans ?_ (by assumption))) <;> (first | omega | (simp only [AH.zN, AH.zP] <;> omega))))
 have ga : H.get A.size = .cells [.int .i64 c, .string t, s.v] 3 := by rw [← hH]; simp (maxSteps := 2000000) (disch := first | omega | (simp only [AH.zN, AH.zP] <;> omega) | fail) only [amV, amH, amQ, amL, amN Tryd.prog, amS, seval, reduceCtorEq, ty3, ty9, ty29, ty43, ty63, ty91]
 have gb : H.get (A.size + 1) = .cells [.int .i64 0, .string ByteArray.empty, Sl.nil.v] 3 := by rw [← hH]; exact AH.gNs _ _
 clear hH
 obtain ⟨t1, H2, hap, hacc, hE2⟩ := (h.ext hEH).copied (P := Tryd.prog) (ro := ro) (t := 43) (fun h => h.nofoot nofoot_Str) (by simp only [ty43]; rfl) (by omega) hl
 rw [show Dat.w ByteArray = 1 from rfl] at hap
 have gb2 := (hE2.get (A.size + 1) (by omega)).trans gb
 have z2 := hE2.size
 refine WpH (H.size) [7] (by kernel_rfl) (.inl (by kernel_rfl)) ?_
 simp (maxSteps := 2000000) (disch := first | omega | (simp only [AH.zN, AH.zP] <;> omega) | fail) only [amX Tryd.prog ro X, amR Tryd.prog ro X, amS, seval, reduceCtorEq, ty3, ty9, ty29, ty43, ty63, ty91, ga, hap, gb2]
 refine ⟨fun b hb => (hE2.get b hb).trans (AH.gNo (by omega)).symm, ?_⟩
 obtain ⟨Fa, ha1, ha2⟩ := hacc.fresh (Fresh.nil _ _)
 have hX : ExtX [A.size + 1] H2 (H2.put (A.size + 1) (.cells [.int .i64 c, .string t, t1.v] 3)) := (ExtX.refl _ _).put (by simp) _
 refine ⟨t1, Fa, rfl, ha1.extx hX (fun b hb => by have := ha2.lo b hb; simp only [List.mem_singleton]; omega), ⟨ha2.nodup, fun b hb => by have := ha2.lo b hb; omega, fun b hb => ha2.hi b hb⟩, ?_⟩
 exact ⟨by have := hX.size; omega, fun b hb => (hX.get b (by omega) (by simp only [List.mem_singleton]; omega)).trans ((hE2.get b (by omega)).trans (hEH.get b hb))⟩
theorem spec_a (A : AH) (hro : ro ≤ A.size) (s1 s2 : Sl) (sp : TSpace) (F1 F2 : List Nat) (h1 : SlR A s1 sp.1 F1) (h2 : SlR A s2 sp.2 F2) (hl1' : sp.1.length < 1152921504606846976) (hl2' : sp.2.length < 1152921504606846976) (hb : ∀ t ∈ sp.2, t.2.length < 281474976710656) (n : ByteArray) :
 ACalls Tryd.prog ro X 47 [.agg #[s1.v, s2.v], .string n] A (fun r A' => ∃ cs G, r = .ret (.agg cs.toArray) ∧ Dat.rep A' (cleanR sp n) cs G ∧ Fresh A G A' ∧ Ext A A') := by
 refine ACalls.enterQ (rs := [.cell 4 91]) Tryd.func47 rfl (by kernel_rfl) rfl ?_
 simp (maxSteps := 2000000) (disch := first | omega | (simp only [AH.zN, AH.zP] <;> omega) | fail) only [amR Tryd.prog ro X, amS, seval, reduceCtorEq, ty3, ty4, ty9, ty29, ty43, ty60, ty61, ty63, ty91, ty173, ty175]
 generalize hH : AH.new (A.new _) _ = H
 have zH : H.size = A.size + 2 := by rw [← hH]; rfl
 have hEH : Ext A H := by rw [← hH]; exact (by ((repeat' (first | exact Ext.refl _ | assumption | refine Ext.trans ?_ (Ext.new _ _) | refine Ext.put ?_ ?_ _ | refine Ext.trans ?_ (by assumption))) <;> (first | omega | (simp only [AH.zN, AH.zP] <;> omega))))
 have ga : H.get A.size = .cells [s1.v, s2.v] 2 := by rw [← hH]; simp (maxSteps := 2000000) (disch := first | omega | (simp only [AH.zN, AH.zP] <;> omega) | fail) only [amV, amH, amQ, amL, amN Tryd.prog, amS, seval, reduceCtorEq, ty3, ty4, ty9, ty29, ty43, ty60, ty61, ty63, ty91, ty173, ty175]
 have gb : H.get (A.size + 1) = .cells [.int .i64 0, .string ByteArray.empty, Sl.nil.v] 3 := by rw [← hH]; exact AH.gNs _ _
 clear hH
 have hz9 : Dat.rep A ((9, ⟨#[]⟩, []) : TResult) [.int .i64 9, .string ByteArray.empty, Sl.nil.v] [] := rep_Result.2 ⟨_, _, rfl, rfl, by show 0 < BIG; unfold BIG; omega, .nil rfl rfl rfl⟩
 refine (Space.specCheck_a H (by omega) s1 s2 sp F1 F2 (h1.ext hEH) (h2.ext hEH) hl1' hl2' hb).mono ?_
 rintro r H1 ⟨rfl, hE1⟩
 have z1 := hE1.size
 have hEA1 := hEH.trans hE1
 have ga1 := (hE1.get A.size (by omega)).trans ga
 have gb1 := (hE1.get (A.size + 1) (by omega)).trans gb
 by_cases k1 : spaceCode sp = 0
 case neg =>
  simp (disch := first | omega | fail) only [amR Tryd.prog ro X, amS, seval, reduceCtorEq, ty3, ty4, ty9, ty29, ty43, ty60, ty61, ty63, ty91, ty173, ty175, ga1, gb1, k1]
  have e : cleanR sp n = (9, ⟨#[]⟩, []) := if_pos (.inl k1)
  have hE : Ext A (H1.put (A.size + 1) (.cells [.int .i64 9, .string ByteArray.empty, Sl.nil.v] 3)) := hEA1.put (by omega) _
  exact ⟨_, _, rfl, by rw [e]; exact Dat.ext hz9 hE, Fresh.nil _ _, hE⟩
 simp (disch := first | omega | fail) only [amR Tryd.prog ro X, amS, seval, reduceCtorEq, ty3, ty4, ty9, ty29, ty43, ty60, ty61, ty63, ty91, ty173, ty175, ga1, gb1, k1]
 refine (Store.spec.l2NameOk_a _ n).mono ?_
 rintro r H1 ⟨rfl, rfl⟩
 by_cases k2 : NameOk n
 case neg =>
  simp (disch := first | omega | fail) only [amR Tryd.prog ro X, amS, seval, reduceCtorEq, ty3, ty4, ty9, ty29, ty43, ty60, ty61, ty63, ty91, ty173, ty175, ga1, gb1, k2]
  have e : cleanR sp n = (9, ⟨#[]⟩, []) := if_pos (.inr k2)
  have hE : Ext A (H1.put (A.size + 1) (.cells [.int .i64 9, .string ByteArray.empty, Sl.nil.v] 3)) := hEA1.put (by omega) _
  exact ⟨_, _, rfl, by rw [e]; exact Dat.ext hz9 hE, Fresh.nil _ _, hE⟩
 have hf := spaceFine k1
 simp (disch := first | omega | fail) only [amR Tryd.prog ro X, amS, seval, reduceCtorEq, ty3, ty4, ty9, ty29, ty43, ty60, ty61, ty63, ty91, ty173, ty175, ga1, gb1, k2]
 refine (l3Clean_a H1 (by omega) s1 s2 sp F1 F2 (h1.ext hEA1) (h2.ext hEA1) hf n k2).mono ?_
 rintro r H2 ⟨K, md, st, G, ch, Fc, rfl, hKs, hE2, hKp, hKB, v2, hch, hFc⟩
 have z2 := hE2.size
 have gp2 := v2.gp
 unfold scV at gp2
 have gb2 := (hE2.get (A.size + 1) (by omega)).trans gb1
 have hp2 := v2.p1
 have e : cleanR sp n = resOf (cleanS sp n).2 := if_neg (by rintro (h | h); exact h k1; exact h k2)
 have hsz := cleanR_sz sp n
 have ez : Mk.sz (cleanR sp n) = 0 + ((cleanR sp n).2.1.size + szL Mk.sz (cleanR sp n).2.2) := rfl
 rw [ez] at hsz
 rw [e] at hsz ⊢
 generalize resOf (cleanS sp n).2 = rr at *
 have hlc := szL_length Mk.sz rr.2.2
 simp (disch := first | omega | fail) only [amR Tryd.prog ro X, amS, seval, reduceCtorEq, ty3, ty4, ty9, ty29, ty43, ty60, ty61, ty63, ty91, ty173, ty175, gp2]
 refine (l3Copy_a H2 (by omega) rr.1 rr.2.1 ch rr.2.2 Fc hch (by omega)).mono ?_
 rintro r H3 ⟨s', F', rfl, h3, f3, hE3⟩
 have z3 := hE3.size
 have gb3 := (hE3.get (A.size + 1) (by omega)).trans gb2
 simp (disch := first | omega | fail) only [amR Tryd.prog ro X, amS, seval, reduceCtorEq, ty3, ty4, ty9, ty29, ty43, ty60, ty61, ty63, ty91, ty173, ty175, gb3]
 have hX : ExtX [A.size + 1] H3 (H3.put (A.size + 1) (.cells [.int .i64 rr.1, .string rr.2.1, s'.v] 3)) := (ExtX.refl _ _).put (by simp) _
 refine ⟨_, F', rfl, rep_Result.2 ⟨s', F', rfl, rfl, by unfold BIG; omega, h3.extx hX (fun b hb => by have := f3.lo b hb; simp only [List.mem_singleton]; omega)⟩, ⟨f3.nodup, fun b hb => by have := f3.lo b hb; omega, fun b hb => f3.hi b hb⟩, ?_⟩
 exact ⟨by have := hX.size; omega, fun b hb => (hX.get b (by omega) (by simp only [List.mem_singleton]; omega)).trans ((hE3.get b (by omega)).trans ((hE2.get b (by omega)).trans (hEA1.get b hb)))⟩
end Go.Proofs.YtmelgjblkmbhjaaDoor.Amu.Sclean
