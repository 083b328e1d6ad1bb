import Derived.Test.YtmelgjblkmbhjaaDoorAmuTy
import Derived.Test.YtmelgjblkmbhjaaDoorAmMake
import Derived.Test.YtmelgjblkmbhjaaDoorAmSpk
import Derived.Test.YtmelgjblkmbhjaaDoorAmuProg
import Derived.Test.YtmelgjblkmbhjaaDoorAmuMk
import Derived.Test.YtmelgjblkmbhjaaDoorAmuNewM
import Derived.Test.YtmelgjblkmbhjaaDoorAmuUnder
import Derived.Test.YtmelgjblkmbhjaaDoorAmuMRun
import Derived.Test.YtmelgjblkmbhjaaDoorAmuWhole
import Derived.Test.YtmelgjblkmbhjaaDoorAmuSpace2
import Derived.Test.YtmelgjblkmbhjaaDoorAmuClean
namespace Go.Proofs.YtmelgjblkmbhjaaDoor.Amu.Trail
open Go Go.AM Go.Proofs
set_option linter.unusedVariables false
set_option linter.unusedSimpArgs false
set_option linter.defProp false
open Ty
variable {ro : Nat} {X : FuncId → List Value → AH → ARes → AH → Prop}
set_option maxRecDepth 10000
open Mk (CS)
def J1 (p c6 c7 : Nat) (n : ByteArray) : AH → CS → List Nat → Prop := fun A x FJ =>
 ∃ (sl : Sl) (F : List Nat), FJ = c6 :: c7 :: F ∧ A.get c6 = .cells [.pointer (some ⟨p, 0, none⟩)] 1 ∧ A.get c7 = .cells [sl.v] 1 ∧ SlR A sl (seenOf n x) F ∧ ∀ b ∈ F, ∃ c, A.get b = .cells c 3
theorem J1_ok (top p c6 c7 : Nat) (n : ByteArray) : JOk top (J1 p c6 c7 n) := by
 refine ⟨fun A A' x F h hz hg => ?_⟩
 obtain ⟨sl, G, rfl, h6, h7, hs, hw⟩ := h
 refine ⟨sl, G, rfl, (hg _ (by simp)).trans h6, (hg _ (by simp)).trans h7, hs.frame fun b hb => ⟨hg b (by simp [hb]), by have := hs.bound b hb; omega⟩, fun b hb => ?_⟩
 obtain ⟨c, hc⟩ := hw b hb
 exact ⟨c, (hg b (by simp [hb])).trans hc⟩
set_option maxHeartbeats 4000000 in
theorem mk_a {K : Mkc} {pv : Stop → Value → AH → Prop} {d c3 c6 c7 : Nat} {nm : ByteArray} {und : Under CS} (hB : ro ≤ K.B.size) (hT : Tab 0 K.B) (hP : Pow 1 K.B) (hu : UndOk K.sp 202 und) (hc3 : c3 < K.B.size) (hg3 : K.B.get c3 = .cells [.string nm] 1) (h67 : c6 ≠ c7)
 (hU : UndC Tryd.prog ro X 185 K (J1 K.p c6 c7 nm) pv 202 d und) : MkC Tryd.prog ro X 127 #[] #[.pointer (some ⟨c6, 0, none⟩), .pointer (some ⟨c3, 0, none⟩), .pointer (some ⟨c7, 0, none⟩)] K (J1 K.p c6 c7 nm) pv 202 d (cleanMk K.sp und) := by
 intro A S os ms es3 es4 FJ n p cs F hro hV hS hn hok hc hRm hd
 obtain ⟨b1, b2, b3, b4, b5, b6, b7⟩ := hV.k.nums
 have htop := hV.k.top
 have hftp := hV.bound
 generalize hG : cleanMk K.sp und S n p = g
 show ACalls _ _ _ _ [.string n, .agg #[cs.v], .pointer (some ⟨c6, 0, none⟩), .pointer (some ⟨c3, 0, none⟩), .pointer (some ⟨c7, 0, none⟩)] A _
 refine ACalls.enterQ (rs := [.cell 7 91]) Tryd.func127 rfl (by kernel_rfl) rfl ?_
 obtain ⟨sl0, G0, hFJ, g6, g7, hs0, hw0⟩ := hV.j
 have j6 := hV.jl c6 (by rw [hFJ]; simp)
 have j7 := hV.jl c7 (by rw [hFJ]; simp)
 simp (maxSteps := 2000000) (disch := first | omega | (simp only [AH.zN, AH.zP] <;> omega) | fail) only [amR Tryd.prog ro X, amS, seval, reduceCtorEq, ty3, ty9, ty27, ty29, ty43, ty63, ty91, ty96, ty178, ty195, ty257, g6]
 generalize hH : AH.new (A.new _) _ = H
 have zH : H.size = A.size + 2 := by rw [← hH]; rfl
 have hEH : Ext A H := by rw [← hH]; exact (by ((repeat' (first | exact Ext.refl _ | assumption | refine Ext.trans ?_ (Ext.new _ _) | refine Ext.put ?_ ?_ _ | refine Ext.trans ?_ (by assumption))) <;> (first | omega | (simp only [AH.zN, AH.zP] <;> omega))))
 have gr : H.get (A.size + 1) = .cells [.int .i64 0, .string ByteArray.empty, Sl.nil.v] 3 := by rw [← hH]; exact AH.gNs _ _
 clear hH
 refine (MRun.mrun_a hB (J1_ok _ _ _ _ _) hT hP hu hU H S os ms es3 es4 FJ p cs F (by omega) (hV.ext (J1_ok _ _ _ _ _) hEH) hS hok hc hRm hd).mono ?_
 rw [cleanMk_eq] at hG
 generalize goR und K.sp p (startR p) [] S = g2 at hG ⊢
 obtain ⟨S2, res⟩ := g2
 rintro R H2 ⟨os2, ms2, es32, es42, FJ2, v2, x2, y2, hR⟩
 replace v2 : MkV K (J1 K.p c6 c7 nm) H2 S2 os2 ms2 es32 es42 FJ2 := v2
 have z2 := x2.size
 have hn2 : A.size + 1 ∉ ftp K os2 ms2 FJ2 := fun hm => by
  rcases y2 _ hm with h | h
  ·have := (hftp _ h).1; omega
  ·omega
 have hX2 : ExtX (ftp K os ms FJ) A H2 := (hEH.x _).trans x2
 have hy2 : ∀ b ∈ ftp K os2 ms2 FJ2, b ∈ ftp K os ms FJ ∨ A.size ≤ b := fun b hb => (y2 b hb).imp id fun h => by omega
 have gr2 := (x2.get (A.size + 1) (by omega) fun hm => by have := (hftp _ hm).1; omega).trans gr
 cases res with
 | error e =>
   obtain ⟨v, rfl, hv⟩ := hR
   simp only at hG
   subst hG
   simp (disch := first | omega | fail) only [amR Tryd.prog ro X, amS, seval, reduceCtorEq, ty3, ty9, ty27, ty29, ty43, ty63, ty91, ty96, ty178, ty195, ty257]
   exact ⟨⟨os2, ms2, es32, es42, FJ2, v2, hX2, hy2⟩, v, rfl, hv⟩
 | ok r =>
   obtain ⟨r, l⟩ := r
   obtain ⟨sl, Fl, rfl, hsl, hFl⟩ := hR
   simp only at hG
   subst hG
   simp only [madeV]
   obtain ⟨sl2, G2, hFJ2, k6, k7, hs2, hw2⟩ := v2.j
   have i6 := v2.jl c6 (by rw [hFJ2]; simp)
   have i7 := v2.jl c7 (by rw [hFJ2]; simp)
   have hbs := v2.k.base.size
   have k3 := (v2.k.base.get c3 hc3).trans hg3
   have hbd2 := v2.bound
   have hc7A : c7 ≠ A.size + 1 := fun e => hn2 (e ▸ mem_ftp.2 (by rw [hFJ2]; simp))
   have hFlA : ∀ b ∈ Fl, A.size + 1 < b ∧ b < H2.size ∧ b ∉ ftp K os2 ms2 FJ2 := fun b hb => by
    have := hFl b hb
    exact ⟨by omega, this.2.1, this.2.2⟩
   by_cases hx : n = nm
   ·simp (disch := first | omega | fail) only [amR Tryd.prog ro X, amS, seval, reduceCtorEq, ty3, ty9, ty27, ty29, ty43, ty63, ty91, ty96, ty178, ty195, ty257, gr2, k3, k7, hx]
    generalize hH3 : AH.put (H2.new _) H2.size _ = H3
    have z3 : H3.size = H2.size + 1 := by rw [← hH3]; rfl
    have hE3 : Ext H2 H3 := by rw [← hH3]; exact (by ((repeat' (first | exact Ext.refl _ | assumption | refine Ext.trans ?_ (Ext.new _ _) | refine Ext.put ?_ ?_ _ | refine Ext.trans ?_ (by assumption))) <;> (first | omega | (simp only [AH.zN, AH.zP] <;> omega))))
    clear hH3
    have v3 := v2.ext (J1_ok _ _ _ _ _) hE3
    have hFlw : ∀ b ∈ Fl, b ≠ c7 := fun b hb e => (hFlA b hb).2.2 (e ▸ mem_ftp.2 (by rw [hFJ2]; simp))
    have vJ : MkV K (J1 K.p c6 c7 nm) (H3.put c7 (.cells [sl.v] 1)) ⟨S2.asked, S2.made, S2.stack, S2.ext ++ [(nm, l)]⟩ os2 ms2 es32 es42 (c6 :: c7 :: Fl) := by
     refine v3.rej (Nat.le_refl _) (fun b hb hm => AH.gPo fun e => hm (by rw [hFJ2, e]; simp)) ⟨sl, Fl, rfl, (AH.gPo h67).trans ((hE3.get c6 i6.2.1).trans k6), AH.gPs _ _ _, ?_, fun b hb => ?_⟩ (fun b hb => ?_)
     ·rw [seenOf_snoc, if_pos rfl]
      exact (hsl.ext hE3).frame fun b hb => ⟨AH.gPo (hFlw b hb), by have := hFlA b hb; simp only [AH.zP]; omega⟩
     ·obtain ⟨c, hc⟩ := hsl.rows nofoot_Seen b hb
      exact ⟨c, (AH.gPo (hFlw b hb)).trans ((hE3.get b (hFlA b hb).2.1).trans hc)⟩
     ·simp only [List.mem_cons] at hb
      rcases hb with rfl | rfl | hb
      ·exact ⟨i6.1, by simp only [AH.zP]; omega, i6.2.2⟩
      ·exact ⟨i7.1, by simp only [AH.zP]; omega, i7.2.2⟩
      ·obtain ⟨w1, w2, w3⟩ := hFlA b hb
       exact ⟨by omega, by simp only [AH.zP]; omega, fun hn e => w3 (mem_ftp.2 (.inr (.inr (.inr (.inl ⟨hn, e⟩))))), fun hn e => w3 (mem_ftp.2 (.inr (.inr (.inr (.inr (.inl ⟨hn, e⟩))))))⟩
    have hX34 : ExtX [c7] H3 (H3.put c7 (.cells [sl.v] 1)) := (ExtX.refl _ _).put (by simp) _
    have hX4 : ExtX [A.size + 1] (H3.put c7 (.cells [sl.v] 1)) ((H3.put c7 (.cells [sl.v] 1)).put (A.size + 1) (.cells [.int .i64 r.1, .string r.2, Sl.nil.v] 3)) := (ExtX.refl _ _).put (by simp) _
    have hJ2 : ∀ b ∈ ftp K os2 ms2 (c6 :: c7 :: Fl), (b ∈ ftp K os ms FJ ∨ A.size ≤ b) ∧ b ≠ A.size + 1 := fun b hb => by
     have old : ∀ b, b ∈ ftp K os2 ms2 FJ2 → (b ∈ ftp K os ms FJ ∨ A.size ≤ b) ∧ b ≠ A.size + 1 := fun b hb => ⟨hy2 b hb, fun e => hn2 (e ▸ hb)⟩
     rcases mem_ftp.1 hb with h | h | h | h | h | h
     ·exact old b (mem_ftp.2 (.inl h))
     ·exact old b (mem_ftp.2 (.inr (.inl h)))
     ·exact old b (mem_ftp.2 (.inr (.inr (.inl h))))
     ·exact old b (mem_ftp.2 (.inr (.inr (.inr (.inl h)))))
     ·exact old b (mem_ftp.2 (.inr (.inr (.inr (.inr (.inl h))))))
     ·simp only [List.mem_cons] at h
      rcases h with h | h | h
      ·exact old b (mem_ftp.2 (by rw [hFJ2]; simp [h]))
      ·exact old b (mem_ftp.2 (by rw [hFJ2]; simp [h]))
      ·have := hFlA b h
       exact ⟨.inr (by omega), by omega⟩
    refine ⟨vJ.done (J1_ok _ _ _ _ _) ((hX2.trans (hE3.x _)).comp hX34 fun b hb => ?_) (fun b hb => (hJ2 b hb).1) (L := [A.size + 1]) hX4 (fun b hb => ?_), rfl⟩
    ·rw [List.mem_singleton.1 hb]
     exact hy2 c7 (mem_ftp.2 (by rw [hFJ2]; simp))
    ·rw [List.mem_singleton.1 hb]
     exact ⟨by omega, by omega, fun hm => (hJ2 _ hm).2 rfl⟩
   ·simp (disch := first | omega | fail) only [amR Tryd.prog ro X, amS, seval, reduceCtorEq, ty3, ty9, ty27, ty29, ty43, ty63, ty91, ty96, ty178, ty195, ty257, gr2, k3, hx]
    generalize hH3 : AH.put (H2.new _) H2.size _ = H3
    have z3 : H3.size = H2.size + 1 := by rw [← hH3]; rfl
    have hE3 : Ext H2 H3 := by rw [← hH3]; exact (by ((repeat' (first | exact Ext.refl _ | assumption | refine Ext.trans ?_ (Ext.new _ _) | refine Ext.put ?_ ?_ _ | refine Ext.trans ?_ (by assumption))) <;> (first | omega | (simp only [AH.zN, AH.zP] <;> omega))))
    clear hH3
    have hX4 : ExtX [A.size + 1] H3 (H3.put (A.size + 1) (.cells [.int .i64 r.1, .string r.2, Sl.nil.v] 3)) := (ExtX.refl _ _).put (by simp) _
    have vJ : MkV K (J1 K.p c6 c7 nm) H3 ⟨S2.asked, S2.made, S2.stack, S2.ext ++ [(n, l)]⟩ os2 ms2 es32 es42 FJ2 := by
     have v3 := v2.ext (J1_ok _ _ _ _ _) hE3
     refine ⟨v3.k, v3.gp, v3.g3, v3.m3, v3.g4, v3.m4, v3.so, v3.sm, v3.ne, ?_, v3.jl⟩
     obtain ⟨q1, q2, q3, q4, q5, q6, q7⟩ := v3.j
     exact ⟨q1, q2, q3, q4, q5, by rw [seenOf_snoc, if_neg hx]; exact q6, q7⟩
    refine ⟨vJ.done (J1_ok _ _ _ _ _) (hX2.trans (hE3.x _)) hy2 (L := [A.size + 1]) hX4 (fun b hb => ?_), rfl⟩
    rw [List.mem_singleton.1 hb]
    exact ⟨by omega, by omega, hn2⟩
theorem under_all1 {K : Mkc} {pv : Stop → Value → AH → Prop} {c3 c6 c7 : Nat} {nm : ByteArray} (hB : ro ≤ K.B.size) (hT : Tab 0 K.B) (hP : Pow 1 K.B) (hpv : ∀ e v A, EndV 257 K.top e v A → pv e v A) (hc3 : c3 < K.B.size) (hg3 : K.B.get c3 = .cells [.string nm] 1) (h67 : c6 ≠ c7)
 (hfv : K.fv = .func (.func 127) #[] #[.pointer (some ⟨c6, 0, none⟩), .pointer (some ⟨c3, 0, none⟩), .pointer (some ⟨c7, 0, none⟩)]) (hsp : SpOk K.sp) :
 ∀ d, UndC Tryd.prog ro X 185 K (J1 K.p c6 c7 nm) pv 202 d (underG (cleanMk K.sp) K.sp d)
 | 0 => Under.under_a hB (J1_ok _ _ _ _ _) hpv hfv hsp cleanMk_ok fun e he => by cases he
 | d + 1 => Under.under_a hB (J1_ok _ _ _ _ _) hpv hfv hsp cleanMk_ok fun e he => by
   cases he
   exact mk_a hB hT hP (underG_ok hsp cleanMk_ok d) hc3 hg3 h67 (under_all1 hB hT hP hpv hc3 hg3 h67 hfv hsp d)
set_option maxHeartbeats 4000000 in
theorem impl_a (hXD : ∀ f args A r A', XD Tryd.prog Tryd.prog.globals.size ro (fun _ _ _ _ _ => False) f args A r A' → X f args A r A') (A : AH) (hro : ro ≤ A.size) (hT : Tab 0 A) (hP : Pow 1 A) (s1 s2 : Sl) (sp : TSpace) (F1 F2 : List Nat) (h1 : SlR A s1 sp.1 F1) (h2 : SlR A s2 sp.2 F2)
 (hl1' : sp.1.length < 1152921504606846976) (hl2' : sp.2.length < 1152921504606846976) (n : ByteArray) :
 ACalls Tryd.prog ro X 53 [.agg #[s1.v, s2.v], .string n] A (fun r A' => ∃ (s : Sl) (F : List Nat) (cs : List Value) (G : List Nat), r = .ret (.tuple #[s.v, .agg cs.toArray]) ∧ SlR A' s (trailR sp n).1 F ∧ Dat.rep A' (trailR sp n).2 cs G ∧ Fresh A (F ++ G) A' ∧ Ext A A') := by
 refine ACalls.enterQ (rs := [.tmp 4, .cell 5 91]) Tryd.func53 rfl (by kernel_rfl) rfl ?_
 simp (maxSteps := 2000000) (disch := first | omega | (simp only [AH.zN, AH.zP] <;> omega) | fail) only [amR Tryd.prog ro X, amS, seval, reduceCtorEq, ty3, ty4, ty9, ty29, ty43, ty60, ty61, ty63, ty91, ty96, ty178, ty186, ty187, ty188, ty189, ty190, ty192, ty195, ty257]
 generalize hH : AH.new (AH.new (A.new _) _) _ = H
 have zH : H.size = A.size + 3 := by rw [← hH]; rfl
 have hEH : Ext A H := by rw [← hH]; exact (by ((repeat' (first | exact Ext.refl _ | assumption | refine Ext.trans ?_ (Ext.new _ _) | refine Ext.put ?_ ?_ _ | refine Ext.trans ?_ (by assumption))) <;> (first | omega | (simp only [AH.zN, AH.zP] <;> omega))))
 have ga : H.get A.size = .cells [s1.v, s2.v] 2 := by rw [← hH]; simp (maxSteps := 2000000) (disch := first | omega | (simp only [AH.zN, AH.zP] <;> omega) | fail) only [amV, amH, amQ, amL, amN Tryd.prog, amS, seval, reduceCtorEq, ty3, ty4, ty9, ty29, ty43, ty60, ty61, ty63, ty91, ty96, ty178, ty186, ty187, ty188, ty189, ty190, ty192, ty195, ty257]
 have gn : H.get (A.size + 1) = .cells [.string n] 1 := by rw [← hH]; simp (maxSteps := 2000000) (disch := first | omega | (simp only [AH.zN, AH.zP] <;> omega) | fail) only [amV, amH, amQ, amL, amN Tryd.prog, amS, seval, reduceCtorEq, ty3, ty4, ty9, ty29, ty43, ty60, ty61, ty63, ty91, ty96, ty178, ty186, ty187, ty188, ty189, ty190, ty192, ty195, ty257]
 have gb : H.get (A.size + 2) = .cells [.int .i64 0, .string ByteArray.empty, Sl.nil.v] 3 := by rw [← hH]; exact AH.gNs _ _
 clear hH
 have hz9 : Dat.rep A ((9, ⟨#[]⟩, []) : TResult) [.int .i64 9, .string ByteArray.empty, Sl.nil.v] [] := rep_Result.2 ⟨_, _, rfl, rfl, by show 0 < BIG; unfold BIG; omega, .nil rfl rfl rfl⟩
 refine (Space2.implCheck_a H (by omega) (hT.ext hEH) s1 s2 sp F1 F2 (h1.ext hEH) (h2.ext hEH) hl1' hl2').mono ?_
 rintro r H1 ⟨rfl, hE1⟩
 have z1 := hE1.size
 have hEA1 := hEH.trans hE1
 have ga1 := (hE1.get A.size (by omega)).trans ga
 have gn1 := (hE1.get (A.size + 1) (by omega)).trans gn
 have gb1 := (hE1.get (A.size + 2) (by omega)).trans gb
 by_cases k1 : spaceCode sp = 0
 case neg =>
  simp (disch := first | omega | fail) only [amR Tryd.prog ro X, amS, seval, reduceCtorEq, ty3, ty4, ty9, ty29, ty43, ty60, ty61, ty63, ty91, ty96, ty178, ty186, ty187, ty188, ty189, ty190, ty192, ty195, ty257, ga1, gn1, gb1, k1]
  have e : trailR sp n = ([], (9, ⟨#[]⟩, [])) := if_pos (.inl k1)
  have hE : Ext A (H1.put (A.size + 2) (.cells [.int .i64 9, .string ByteArray.empty, Sl.nil.v] 3)) := hEA1.put (by omega) _
  exact ⟨Sl.nil, [], _, [], rfl, by rw [e]; exact .nil rfl rfl rfl, by rw [e]; exact Dat.ext hz9 hE, Fresh.nil _ _, hE⟩
 simp (disch := first | omega | fail) only [amR Tryd.prog ro X, amS, seval, reduceCtorEq, ty3, ty4, ty9, ty29, ty43, ty60, ty61, ty63, ty91, ty96, ty178, ty186, ty187, ty188, ty189, ty190, ty192, ty195, ty257, ga1, gn1, gb1, k1]
 refine (Store.impl.isName_a _ n).mono ?_
 rintro r H1 ⟨rfl, rfl⟩
 by_cases k2 : NameOk n
 case neg =>
  simp (disch := first | omega | fail) only [amR Tryd.prog ro X, amS, seval, reduceCtorEq, ty3, ty4, ty9, ty29, ty43, ty60, ty61, ty63, ty91, ty96, ty178, ty186, ty187, ty188, ty189, ty190, ty192, ty195, ty257, ga1, gn1, gb1, k2]
  have e : trailR sp n = ([], (9, ⟨#[]⟩, [])) := if_pos (.inr k2)
  have hE : Ext A (H1.put (A.size + 2) (.cells [.int .i64 9, .string ByteArray.empty, Sl.nil.v] 3)) := hEA1.put (by omega) _
  exact ⟨Sl.nil, [], _, [], rfl, by rw [e]; exact .nil rfl rfl rfl, by rw [e]; exact Dat.ext hz9 hE, Fresh.nil _ _, hE⟩
 have hf := spaceFine k1
 simp (disch := first | omega | fail) only [amR Tryd.prog ro X, amS, seval, reduceCtorEq, ty3, ty4, ty9, ty29, ty43, ty60, ty61, ty63, ty91, ty96, ty178, ty186, ty187, ty188, ty189, ty190, ty192, ty195, ty257, ga1, gn1, gb1, k2]
 refine (NewM.new_a (σ := CS) H1 (by omega) s1 s2 sp F1 F2 (h1.ext hEA1) (h2.ext hEA1) hf.l1 hf.l2 hf.n1 hf.n2 []).mono ?_
 rintro r H2 ⟨K, rfl, hE2, hKs, hKB, hKt, hfv, hV⟩
 have z2 := hE2.size
 obtain ⟨b1, b2, b3, b4, b5, b6, b7⟩ := hV.k.nums
 have hKBz : K.B.size = H1.size := by rw [hKB]
 have gp2 := hV.gp
 unfold mcV at gp2
 have gn2 := (hE2.get (A.size + 1) (by omega)).trans gn1
 have gb2 := (hE2.get (A.size + 2) (by omega)).trans gb1
 have hq : ∀ e : Env, Array.map e.eval #[Operand.tmp 6, Operand.tmp 3, Operand.tmp 7] = #[e 6, e 3, e 7] := fun e => by
  simp only [List.map_toArray, List.map_cons, List.map_nil]
  rfl
 have hq0 : ∀ e : Env, Array.map e.eval #[] = #[] := fun e => Array.map_empty
 simp (maxSteps := 2000000) (disch := first | omega | (simp only [AH.zN, AH.zP] <;> omega) | fail) only [amR Tryd.prog ro X, amS, seval, reduceCtorEq, ty3, ty4, ty9, ty29, ty43, ty60, ty61, ty63, ty91, ty96, ty178, ty186, ty187, ty188, ty189, ty190, ty192, ty195, ty257, gp2, gn2, hq, hq0]
 generalize hH3 : AH.put (AH.new (AH.put (H2.new _) H2.size _) _) K.p _ = H3
 have hKpz : K.p < H2.size := by omega
 have z3 : H3.size = H2.size + 2 := by rw [← hH3]; rfl
 have o3 : ∀ b, b < H2.size → b ≠ K.p → H3.get b = H2.get b := fun b hb hp => by
  rw [← hH3, AH.gPo hp, AH.gNo (by simp only [AH.zP, AH.zN]; omega), AH.gPo (by omega), AH.gNo (by omega)]
 have g6 : H3.get H2.size = .cells [.pointer (some ⟨K.p, 0, none⟩)] 1 := by rw [← hH3]; simp (maxSteps := 2000000) (disch := first | omega | (simp only [AH.zN, AH.zP] <;> omega) | fail) only [amV, amH, amQ, amL, amN Tryd.prog, amS, seval, reduceCtorEq, ty3, ty4, ty9, ty29, ty43, ty60, ty61, ty63, ty91, ty96, ty178, ty186, ty187, ty188, ty189, ty190, ty192, ty195, ty257]
 have g7 : H3.get (H2.size + 1) = .cells [Sl.nil.v] 1 := by rw [← hH3]; simp (maxSteps := 2000000) (disch := first | omega | (simp only [AH.zN, AH.zP] <;> omega) | fail) only [amV, amH, amQ, amL, amN Tryd.prog, amS, seval, reduceCtorEq, ty3, ty4, ty9, ty29, ty43, ty60, ty61, ty63, ty91, ty96, ty178, ty186, ty187, ty188, ty189, ty190, ty192, ty195, ty257]
 obtain ⟨K2, hK2⟩ : ∃ K2 : Mkc, K2 = ⟨K.B, K.b1, K.b2, K.b3, K.b4, K.p, K.cv, K.top, .func (.func 127) #[] #[.pointer (some ⟨H2.size, 0, none⟩), .pointer (some ⟨A.size + 1, 0, none⟩), .pointer (some ⟨H2.size + 1, 0, none⟩)], K.sp⟩ := ⟨_, rfl⟩
 have hp2 : K2.p = K.p := by rw [hK2]
 have hB2 : K2.B = H1 := by rw [hK2]; exact hKB
 have ht2 : K2.top = K.top := by rw [hK2]
 have hs2 : K2.sp = sp := by rw [hK2]; exact hKs
 have hV3 : MkV K2 (J1 K2.p H2.size (H2.size + 1) n) H3 shop0 .nil .nil [] [] [H2.size, H2.size + 1] := by
  have g3' : H3.get K.b3 = .map (mp []) := (o3 K.b3 (by omega) (by omega)).trans hV.g3
  have g4' : H3.get K.b4 = .map (mp []) := (o3 K.b4 (by omega) (by omega)).trans hV.g4
  have v := hV.k.frame (A' := H3) (by omega) fun b hb h1 h2 h3 => o3 b (by omega) h1
  rw [hK2]
  refine ⟨⟨⟨v.nums.h1, v.nums.h2, v.nums.h3, v.nums.h4, v.nums.h5, v.nums.h6, v.nums.h7⟩, v.base, v.top, v.src, v.tgt, v.cell⟩, ?_, g3', hV.m3, g4', hV.m4, .nil, .nil, hV.ne, ⟨.nil, [], rfl, g6, g7, .nil rfl rfl rfl, by simp⟩, fun b hb => ?_⟩
  ·rw [← hH3, AH.gPs]; rfl
  ·simp only [List.mem_cons, List.not_mem_nil, or_false] at hb
   exact ⟨by rcases hb with rfl | rfl <;> (show K.top ≤ _; omega), by rcases hb with rfl | rfl <;> omega, (fun h => by cases h), (fun h => by cases h)⟩
 clear hH3
 have hbd := hV3.bound
 have hun := under_all1 (K := K2) (ro := ro) (X := fun _ _ _ _ _ => False) (pv := EndV 257 K2.top) (c3 := A.size + 1) (c6 := H2.size) (c7 := H2.size + 1) (nm := n) (by rw [hB2]; omega) (by rw [hB2]; exact hT.ext hEA1) (by rw [hB2]; exact hP.ext hEA1) (fun e v A h => h) (by rw [hB2]; omega) (by rw [hB2]; exact gn1) (by omega) (by rw [hK2]) (by rw [hs2]; exact hf.ok) 60
 obtain ⟨v, H4, hx, s, F, rfl, hs, hF, ⟨os4, ms4, es34, es44, FJ4, v4, x4, y4⟩⟩ := Whole.whole_a (K := K2) (ro := ro) (X := fun _ _ _ _ _ => False) (by rw [hB2]; omega) (J1_ok _ _ _ _ _) hun H3 shop0 .nil .nil [] [] [H2.size, H2.size + 1] (by omega) hV3 (shop0_ok _) rfl n k2 (by rw [hs2]; exact Clean.room0 hf)
 rw [← hp2]
 refine ⟨_, H4, .ext (hXD _ _ _ _ _ hx), ?_⟩
 have z4 := x4.size
 have lo4 : ∀ b, b < H1.size → H4.get b = H3.get b := fun b hb => x4.get b (by omega) fun hm => by
  have := hbd _ hm
  rw [ht2, hp2] at this
  have e3 : K2.b3 = K.b3 := by rw [hK2]
  have e4 : K2.b4 = K.b4 := by rw [hK2]
  omega
 have hE4 : Ext A H4 := ⟨by omega, fun b hb => (lo4 b (by omega)).trans ((o3 b (by omega) (by omega)).trans ((hE2.get b (by omega)).trans (hEA1.get b hb)))⟩
 have gb4 := (lo4 (A.size + 2) (by omega)).trans ((o3 _ (by omega) (by omega)).trans gb2)
 have hc : (underG (cleanMk K2.sp) K2.sp 60 shop0 n) = cleanS sp n := by rw [hs2]; rfl
 rw [hc] at hs v4 ⊢
 have hsz := cleanR_sz sp n
 have ez : Mk.sz (cleanR sp n) = 0 + ((cleanR sp n).2.1.size + szL Mk.sz (cleanR sp n).2.2) := rfl
 have e : cleanR sp n = resOf (cleanS sp n).2 := if_neg (by rintro (h | h); exact h k1; exact h k2)
 rw [ez, e] at hsz
 have et : trailR sp n = match (cleanS sp n).2 with
  | .ok r => (seenOf n (cleanS sp n).1.ext, (r.1, r.2, []))
  | .error e => ([], resOf (.error e)) := if_neg (by rintro (h | h); exact h k1; exact h k2)
 have hend := fun e => cleanS_end hf k2 (e := e)
 have hrok := (cleanS_ok hf.ok k2).2
 rw [et]
 obtain ⟨sl, G7, hFJ4, k6, k7, hs7, hw7⟩ := v4.j
 have i7 := v4.jl (H2.size + 1) (by rw [hFJ4]; simp)
 obtain ⟨F', hs', hnd, hsub⟩ := hs.nodupF nofoot_Str
 generalize cleanS sp n = g at *
 obtain ⟨S2, res⟩ := g
 obtain ⟨rr, hrr⟩ : ∃ rr, rr = resOf res := ⟨_, rfl⟩
 simp only [← hrr] at hs' hsz ⊢
 have hX : ∀ {H5 : AH} {cs : List Value}, Ext A H5 → Ext A (H5.put (A.size + 2) (.cells cs 3)) := fun h => h.put (by omega) _
 simp (disch := first | omega | fail) only [amR Tryd.prog ro X, amS, seval, reduceCtorEq, ty3, ty4, ty9, ty29, ty43, ty60, ty61, ty63, ty91, ty96, ty178, ty186, ty187, ty188, ty189, ty190, ty192, ty195, ty257]
 generalize hH5 : AH.put (H4.new _) H4.size _ = H5
 have z5 : H5.size = H4.size + 1 := by rw [← hH5]; rfl
 have hE5 : Ext H4 H5 := by rw [← hH5]; exact (by ((repeat' (first | exact Ext.refl _ | assumption | refine Ext.trans ?_ (Ext.new _ _) | refine Ext.put ?_ ?_ _ | refine Ext.trans ?_ (by assumption))) <;> (first | omega | (simp only [AH.zN, AH.zP] <;> omega))))
 have g8 : H5.get H4.size = .cells [.int .i64 rr.1, .string rr.2.1, s.v] 3 := by rw [← hH5]; exact AH.gPs _ _ _
 clear hH5
 have gb5 := (hE5.get (A.size + 2) (by omega)).trans gb4
 have k75 := (hE5.get (H2.size + 1) (by omega)).trans k7
 have hX6 : ExtX [A.size + 2] H5 (H5.put (A.size + 2) (.cells [.int .i64 rr.1, .string rr.2.1, s.v] 3)) := (ExtX.refl _ _).put (by simp) _
 have hFb : ∀ b ∈ F', A.size + 2 < b ∧ b < H4.size := fun b hb => by
  have := hF b (hsub b hb)
  rw [ht2] at this
  exact ⟨by omega, this.2⟩
 cases res with
 | error er =>
   obtain ⟨r0, rfl, hr1, _⟩ := hend er rfl
   have hrr0 : rr = r0 := hrr
   have c5 : (5 : Int) < rr.1 := by rw [hrr0]; rcases hr1 with h | h <;> omega
   simp (disch := first | omega | fail) only [amR Tryd.prog ro X, amS, seval, reduceCtorEq, ty3, ty4, ty9, ty29, ty43, ty60, ty61, ty63, ty91, ty96, ty178, ty186, ty187, ty188, ty189, ty190, ty192, ty195, ty257, g8, c5]
   refine Wp.runG [] (by kernel_rfl) (.inl (by kernel_rfl)) ?_
   simp (disch := first | omega | fail) only [amR Tryd.prog ro X, amS, seval, reduceCtorEq, ty3, ty4, ty9, ty29, ty43, ty60, ty61, ty63, ty91, ty96, ty178, ty186, ty187, ty188, ty189, ty190, ty192, ty195, ty257, g8, gb5]
   rw [← hrr]
   refine ⟨.nil, [], _, F', rfl, .nil rfl rfl rfl, rep_Result.2 ⟨s, F', rfl, rfl, by unfold BIG; omega, (hs'.ext hE5).extx hX6 (fun b hb => by have := hFb b hb; simp only [List.mem_singleton]; omega)⟩, ⟨by simpa using hnd, fun b hb => ?_, fun b hb => ?_⟩, hX (hE4.trans hE5)⟩
   ·have := hFb b (by simpa using hb); omega
   ·have := hFb b (by simpa using hb); simp only [AH.zP]; omega
 | ok rv =>
   have hrr0 : rr = (rv.1, rv.2, []) := hrr
   have c5 : ¬ (5 : Int) < rr.1 := by rw [hrr0]; have := (hrok rv rfl).2.1; show ¬ (5 : Int) < rv.1; omega
   simp (disch := first | omega | fail) only [amR Tryd.prog ro X, amS, seval, reduceCtorEq, ty3, ty4, ty9, ty29, ty43, ty60, ty61, ty63, ty91, ty96, ty178, ty186, ty187, ty188, ty189, ty190, ty192, ty195, ty257, g8, c5]
   refine Wp.runG [] (by kernel_rfl) (.inl (by kernel_rfl)) ?_
   simp (disch := first | omega | fail) only [amR Tryd.prog ro X, amS, seval, reduceCtorEq, ty3, ty4, ty9, ty29, ty43, ty60, ty61, ty63, ty91, ty96, ty178, ty186, ty187, ty188, ty189, ty190, ty192, ty195, ty257, g8, gb5, k75]
   rw [← hrr0]
   obtain ⟨G', h7', hnd7, hsub7⟩ := hs7.nodupF nofoot_Seen
   have hGb : ∀ b ∈ G', A.size + 2 < b ∧ b < H4.size := fun b hb => by
    have := v4.jl b (by rw [hFJ4]; simp [hsub7 b hb])
    rw [ht2] at this
    omega
   refine ⟨sl, G', _, F', rfl, (h7'.ext hE5).extx hX6 (fun b hb => by have := hGb b hb; simp only [List.mem_singleton]; omega), rep_Result.2 ⟨s, F', rfl, rfl, by unfold BIG; omega, (hs'.ext hE5).extx hX6 (fun b hb => by have := hFb b hb; simp only [List.mem_singleton]; omega)⟩, ⟨List.nodup_append.2 ⟨hnd7, hnd, fun a ha b hb e => ?_⟩, fun b hb => ?_, fun b hb => ?_⟩, hX (hE4.trans hE5)⟩
   ·subst e
    obtain ⟨c, hc⟩ := hw7 a (hsub7 a ha)
    obtain ⟨c', hc'⟩ := hs'.rows nofoot_Str a hb
    exact cells_ne hc hc' (by decide) rfl
   ·rcases List.mem_append.1 hb with hb | hb
    ·have := hGb b hb; omega
    ·have := hFb b hb; omega
   ·simp only [AH.zP]
    rcases List.mem_append.1 hb with hb | hb
    ·have := hGb b hb; omega
    ·have := hFb b hb; omega
end Go.Proofs.YtmelgjblkmbhjaaDoor.Amu.Trail
