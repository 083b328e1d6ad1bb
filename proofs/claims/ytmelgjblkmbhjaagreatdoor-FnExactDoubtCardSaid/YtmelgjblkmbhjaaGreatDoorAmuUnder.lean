import Derived.Test.YtmelgjblkmbhjaaGreatDoorAmuTy
import Derived.Test.YtmelgjblkmbhjaaGreatDoorAmMake
import Derived.Test.YtmelgjblkmbhjaaGreatDoorAmuProg
namespace Go.Proofs.YtmelgjblkmbhjaaGreatDoor.Amu.Under
open Go Go.AM Go.Proofs
set_option linter.all false
open Ty
variable {ro : Nat} {X : FuncId → List Value → AH → ARes → AH → Prop} {σ : Type}
set_option maxRecDepth 10000
set_option maxHeartbeats 4000000 in
theorem under_a {K : Mkc} {J : AH → σ → List Nat → Prop} {pv : Stop → Value → AH → Prop} {C d : Nat} {mk : Maker σ} {fm : FuncId} {fs caps : Array Value} (hB : ro ≤ K.B.size) (hJ : JOk K.top J) (hpv : ∀ e v A, EndV 168 K.top e v A → pv e v A) (hfv : K.fv = .func (.func fm) fs caps)
 (hsp : SpOk K.sp) (hmk : MkOk K.sp C mk) (hM : ∀ e, d = e + 1 → MkC Tryz.prog ro X fm fs caps K J pv C e (mk (underG mk K.sp e))) : UndC Tryz.prog ro X 96 K J pv C d (underG mk K.sp d) := by
 intro A S os ms es3 es4 FJ n hro hV hS hn hRm hd
 have hns := name_size hn
 obtain ⟨b1, b2, b3, b4, b5, b6, b7⟩ := hV.k.nums
 have htop := hV.k.top
 have hftp := hV.bound
 generalize hU : underG mk K.sp d S n = g
 refine ACalls.enterQ (rs := [.cell 4 79]) Tryz.func96 rfl (by kernel_rfl) rfl ?_
 have gp := hV.gp
 unfold mcV at gp
 have hl4 := look1 (P := Tryz.prog) (t := 84) (e := 4) (z := .bool false) (by simp only [ty84]) (by simp only [ty4]) ((AH.gNo (o := .cells [.int .i64 0, .string ByteArray.empty, Sl.nil.v] 3) (by omega)).trans hV.g4) n
 rw [hV.m4, show (if (idxL n S.asked).isSome = true then some (Value.bool true) else none).getD (.bool false) = .bool (idxL n S.asked).isSome by cases (idxL n S.asked).isSome <;> rfl] at hl4
 simp (disch := first | omega | fail) only [amR Tryz.prog ro X, amS, seval, reduceCtorEq, ty3, ty4, ty9, ty22, ty56, ty58, ty79, ty81, ty82, ty83, ty84, ty85, ty87, ty168, gp, hl4]
 refine condCutN (fun e H => e 0 = .pointer (some ⟨K.p, 0, none⟩) ∧ e 1 = .string n ∧ e 4 = .pointer (some ⟨A.size, 0, none⟩) ∧ ∃ os' es4', MkV K J H (askS S n) os' ms es3 es4' FJ ∧ ExtX (ftp K os ms FJ) A H ∧ (∀ b ∈ ftp K os' ms FJ, b ∈ ftp K os ms FJ ∨ A.size < b) ∧ A.size < H.size ∧ H.get A.size = .cells [.int .i64 0, .string ByteArray.empty, Sl.nil.v] 3) ?_ ?_
 ·by_cases ha : (idxL n S.asked).isSome
  ·have hask : askS S n = S := by unfold askS; rw [if_pos ha]
   rw [hask]
   simp (disch := first | omega | fail) only [amR Tryz.prog ro X, amS, seval, reduceCtorEq, ty3, ty4, ty9, ty22, ty56, ty58, ty79, ty81, ty82, ty83, ty84, ty85, ty87, ty168, ha]
   exact ⟨os, es4, hV.ext hJ (Ext.new _ _), (Ext.new _ _).x _, fun b hb => .inl hb, by omega⟩
  ·have hask : askS S n = ⟨S.asked ++ [n], S.made, S.stack, S.ext⟩ := by unfold askS; rw [if_neg ha]
   rw [hask]
   generalize hA00 : A.new (.cells [.int .i64 0, .string ByteArray.empty, Sl.nil.v] 3) = A0 at hl4
   have z0 : A0.size = A.size + 1 := by rw [← hA00]; rfl
   have hE0 : Ext A A0 := by rw [← hA00]; exact Ext.new _ _
   have hV0 := hV.ext hJ hE0
   have r0 : A0.get A.size = .cells [.int .i64 0, .string ByteArray.empty, Sl.nil.v] 3 := by rw [← hA00]; exact AH.gNs _ _
   have hset := mset (P := Tryz.prog) (ro := ro) (A := A0) (t := 84) (e := 4) (es := es4) (b := K.b4) (by simp only [ty84]) hV0.g4 (by omega) n (v := .bool true) rfl
   have gp0 := hV0.gp
   unfold mcV at gp0
   clear hA00
   generalize hA1 : A0.put K.b4 (.map (mp (kset es4 n (.bool true)))) = A1
   rw [hA1] at hset
   have z1 : A1.size = A0.size := by rw [← hA1]; rfl
   have o1 : ∀ b, b ≠ K.b4 → A1.get b = A0.get b := fun b h2 => by rw [← hA1, AH.gPo h2]
   have r1 := (o1 A.size (by omega)).trans r0
   have q1 : A1.get K.b4 = .map (mp (kset es4 n (.bool true))) := by rw [← hA1]; exact AH.gPs _ _ _
   have p1 := (o1 K.p (by omega)).trans gp0
   clear hA1
   have hos : Stk K.top A1 os S.asked := hV0.so.frame (by omega) fun hn => o1 _ (by have := hV.so.bd hn; omega)
   obtain ⟨s1, H1, h1, h2, h3, h4, h5, h6⟩ := (hos.ext (Ext.new A1 (.cells [.string n] 1))).push (P := Tryz.prog) (ro := ro) (by omega) (by simp only [AH.zN]; omega) (t := 22) (by simp only [ty22]) (x := Sl.v ⟨false, A1.size, 0, 1, 1⟩) (v := n) (by simp [Sl.v, aSource, aRow_eq, AH.gNs, rowK]) (by unfold BIG; omega) (by unfold Room at hRm; omega)
   simp only [AH.zN] at h3 h4 h6
   have hne : ∀ b, b < K.top → os.nl = true ∨ b ≠ os.b := fun b hb => by
    cases ho : os.nl
    ·exact .inr fun e => by have := hV.so.bd ho; omega
    ·exact .inl rfl
   have hne' : ∀ b, (os.nl = false → b ≠ os.b) → os.nl = true ∨ b ≠ os.b := fun b hb => by
    cases ho : os.nl
    ·exact .inr (hb ho)
    ·exact .inl rfl
   have p2 := (h4 K.p (by omega) (hne _ (by omega))).trans ((AH.gNo (by omega)).trans p1)
   have q2 := (h4 K.b4 (by omega) (hne _ (by omega))).trans ((AH.gNo (by omega)).trans q1)
   have r2 := (h4 A.size (by omega) (hne' _ fun ho => by have := hV.so.bd ho; omega)).trans ((AH.gNo (by omega)).trans r1)
   simp (disch := first | omega | fail) only [amR Tryz.prog ro X, amS, seval, reduceCtorEq, ty3, ty4, ty9, ty22, ty56, ty58, ty79, ty81, ty82, ty83, ty84, ty85, ty87, ty168, ha, gp0, hset, p1, p2, h1]
   have hsp1 : s1.b ≠ K.p := by
    rcases h6 with ⟨g, g'⟩ | g
    ·have := hV.so.bd g'; omega
    ·omega
   have hs1b : s1.nl = false → (s1.b = os.b ∧ os.nl = false) ∨ A0.size ≤ s1.b := fun _ => by
    rcases h6 with g | g
    ·exact .inl g
    ·exact .inr (by omega)
   obtain ⟨k1, k2, k3⟩ := hV0.asked (n := n) (os' := s1) (A' := H1.put K.p (.cells (mcV K s1 ms) 7)) hJ (by simp only [AH.zP]; omega) (fun b g1 g2 g3 g4 => (AH.gPo g2).trans ((h4 b (by omega) (hne' _ g4)).trans ((AH.gNo (by omega)).trans (o1 b g3)))) (AH.gPs _ _ _) ((AH.gPo (by omega)).trans q2) (h2.frame (by simp only [AH.zP]; omega) fun hn => AH.gPo hsp1) hs1b
   exact ⟨s1, _, k1, (hE0.x _).trans k2, fun b hb => (k3 b hb).imp id fun h => by omega, by omega, r2⟩
 rintro e H ⟨e0, e1, e4, os1, es41, hV1, hX1, hF1, hz1, gr1⟩
 have hS1 := askS_ok hS n
 have hm1 := askS_made S n
 have hst1 := askS_stack S n
 have hRm1 := askS_room hRm n
 unfold underG at hU
 simp only at hU
 generalize askS S n = S1 at hV1 hS1 hm1 hst1 hRm1 hU
 obtain ⟨es1, g1, m1⟩ := hV1.k.src
 obtain ⟨es2, g2, m2⟩ := hV1.k.tgt
 obtain ⟨sq, hq1, hq2⟩ := m2.get n
 have g3 := hV1.g3
 have gp1 := hV1.gp
 unfold mcV at gp1
 have hin1 : A.size ∉ ftp K os1 ms FJ := fun hm => by
  rcases hF1 _ hm with h | h
  ·have := (hftp _ h).1; omega
  ·omega
 have hbd1 := hV1.bound
 have hl3 := look2 (P := Tryz.prog) (t := 83) (e := 79) (z := .agg #[.int .i64 0, .string ⟨#[]⟩, Sl.nil.v]) (by simp only [ty83]) (by simp only [ty79]; rfl) g3 n
 rw [hV1.m3] at hl3
 cases hmd : lookL n S1.made with
 | some r =>
   rw [hmd] at hU hl3
   simp only [Option.map_some, madeV] at hl3
   subst hU
   simp (disch := first | omega | fail) only [amR Tryz.prog ro X, amS, seval, reduceCtorEq, ty3, ty4, ty9, ty22, ty56, ty58, ty79, ty81, ty82, ty83, ty84, ty85, ty87, ty168, e0, e1, e4, gp1, hl3, gr1]
   refine ⟨hV1.done hJ hX1 (fun b hb => (hF1 b hb).imp id fun h => by omega) (L := [A.size, H.size]) ⟨(by first | omega | (simp only [AH.zN, AH.zP] <;> omega)), fun b hb hm => ?_⟩ (fun b hb => ?_), rfl⟩
   ·simp only [List.mem_cons, List.not_mem_nil, or_false, not_or] at hm
    rw [AH.gPo hm.1, AH.gPo hm.2, AH.gNo hm.2]
   ·simp only [List.mem_cons, List.not_mem_nil, or_false] at hb
    rcases hb with rfl | rfl
    ·exact ⟨by omega, by omega, hin1⟩
    ·exact ⟨by omega, by omega, fun hm => by have := (hbd1 _ hm).1; omega⟩
 | none =>
 rw [hmd] at hU hl3
 simp only [Option.map_none] at hl3
 simp only at hU
 simp (maxSteps := 2000000) (disch := first | omega | (simp only [AH.zN, AH.zP] <;> omega) | fail) only [amR Tryz.prog ro X, amS, seval, reduceCtorEq, ty3, ty4, ty9, ty22, ty56, ty58, ty79, ty81, ty82, ty83, ty84, ty85, ty87, ty168, e0, e1, e4, gp1, hl3]
 generalize hH5 : AH.new (AH.put (H.new _) H.size _) _ = H5
 have z5 : H5.size = H.size + 2 := by rw [← hH5]; rfl
 have hE5 : Ext H H5 := by rw [← hH5]; exact (by ((repeat' (first | exact Ext.refl _ | assumption | refine Ext.trans ?_ (Ext.new _ _) | refine Ext.put ?_ ?_ _ | refine Ext.trans ?_ (by assumption))) <;> (first | omega | (simp only [AH.zN, AH.zP] <;> omega))))
 have r7 : H5.get (H.size + 1) = .cells [.int .i64 0, .string ByteArray.empty, Sl.nil.v] 3 := by rw [← hH5]; exact AH.gNs _ _
 clear hH5
 have hl2 := look2 (P := Tryz.prog) (t := 82) (e := 58) (z := .agg #[Sl.nil.v]) (by simp only [ty82]) (by simp only [ty58]; rfl) ((hE5.get _ (by omega)).trans g2) n
 replace hl2 := hl2.trans (congrArg some hq1)
 simp (maxSteps := 2000000) (disch := first | omega | (simp only [AH.zN, AH.zP] <;> omega) | fail) only [amR Tryz.prog ro X, amS, seval, reduceCtorEq, ty3, ty4, ty9, ty22, ty56, ty58, ty79, ty81, ty82, ty83, ty84, ty85, ty87, ty168, hl2]
 generalize hH6 : AH.put (H5.new _) H5.size _ = H6
 have z6 : H6.size = H.size + 3 := by rw [← hH6]; simp only [AH.zP, AH.zN]; omega
 have hE6 : Ext H5 H6 := by rw [← hH6]; exact (by ((repeat' (first | exact Ext.refl _ | assumption | refine Ext.trans ?_ (Ext.new _ _) | refine Ext.put ?_ ?_ _ | refine Ext.trans ?_ (by assumption))) <;> (first | omega | (simp only [AH.zN, AH.zP] <;> omega))))
 have r8 : H6.get (H.size + 2) = .cells [sq.v] 1 := by rw [← hH6, ← z5]; exact AH.gPs _ _ _
 clear hH6
 have hE16 := hE5.trans hE6
 have hV6 := hV1.ext hJ hE16
 have r76 := (hE6.get (H.size + 1) (by omega)).trans r7
 have gr6 := (hE16.get A.size hz1).trans gr1
 have gp6 := hV6.gp
 unfold mcV at gp6
 have hl1 := look2 (P := Tryz.prog) (t := 81) (e := 9) (z := .string ⟨#[]⟩) (by simp only [ty81]) (by simp only [ty9]; rfl) ((hE16.get _ (by omega)).trans g1) n
 replace hl1 := hl1.trans (congrArg some (m1.get n))
 rw [z5]
 simp (disch := first | omega | fail) only [amR Tryz.prog ro X, amS, seval, reduceCtorEq, ty3, ty4, ty9, ty22, ty56, ty58, ty79, ty81, ty82, ty83, ty84, ty85, ty87, ty168, e0, e1, e4, gp6, hl1]
 have hX6 : ExtX (ftp K os ms FJ) A H6 := hX1.trans (hE16.x _)
 have hF6 : ∀ b ∈ ftp K os1 ms FJ, (b ∈ ftp K os ms FJ ∨ A.size < b) ∧ b ≠ H.size + 1 := fun b hb => ⟨hF1 b hb, fun h => by have := (hbd1 b hb).1; omega⟩
 have k6 : ∀ o, MkV K J (H6.put (H.size + 1) o) S1 os1 ms es3 es41 FJ ∧ ExtX (ftp K os ms FJ) A (H6.put (H.size + 1) o) := fun o =>
  ⟨hV6.extx hJ (G := [H.size + 1]) ((ExtX.refl _ _).put (by simp) _) fun b hb => by
   rw [List.mem_singleton.1 hb]
   exact ⟨by omega, fun hm => (hF6 _ hm).2 rfl⟩, ⟨by simp only [AH.zP]; omega, fun b hb hm => (AH.gPo (by omega)).trans (hX6.get b hb hm)⟩⟩
 refine condCut (fun e' H' => e' 0 = .pointer (some ⟨K.p, 0, none⟩) ∧ e' 1 = .string n ∧ e' 4 = .pointer (some ⟨A.size, 0, none⟩) ∧ e' 7 = .pointer (some ⟨H.size + 1, 0, none⟩) ∧
  ∃ S2 r os2 ms2 es32 es42 FJ2, g = (madeS S2 n r, .ok r) ∧ lookL n S2.made = none ∧ MkV K J H' S2 os2 ms2 es32 es42 FJ2 ∧ ExtX (ftp K os ms FJ) A H' ∧ (∀ b ∈ ftp K os2 ms2 FJ2, (b ∈ ftp K os ms FJ ∨ A.size < b) ∧ b ≠ H.size + 1) ∧ H.size + 1 < H'.size ∧ H'.get (H.size + 1) = .cells [.int .i64 r.1, .string r.2, Sl.nil.v] 3 ∧ H'.get A.size = .cells [.int .i64 0, .string ByteArray.empty, Sl.nil.v] 3) ?_ ?_
 ·refine CondB.split (fun hs => ?_) (fun hs => ?_)
  ·obtain ⟨t, ht⟩ := Option.isSome_iff_exists.1 hs
   rw [ht] at hU
   simp only at hU
   simp (disch := first | omega | fail) only [amR Tryz.prog ro X, amS, seval, reduceCtorEq, ty3, ty4, ty9, ty22, ty56, ty58, ty79, ty81, ty82, ty83, ty84, ty85, ty87, ty168, e0, e1, e4, r76, Option.isSome_none]
   exact ⟨S1, (0, t), os1, ms, es3, es41, FJ, hU.symm, hmd, (k6 _).1, (k6 _).2, hF6, by omega, by rw [ht]; rfl, gr6⟩
  have hs' : srcR K.sp n = none := by simpa using hs
  rw [hs'] at hU ⊢
  simp only at hU
  cases ht : tgtR K.sp n with
  | none =>
    rw [ht] at hU
    simp only at hU
    simp (disch := first | omega | fail) only [amR Tryz.prog ro X, amS, seval, reduceCtorEq, ty3, ty4, ty9, ty22, ty56, ty58, ty79, ty81, ty82, ty83, ty84, ty85, ty87, ty168, e0, e1, e4, r76, Option.isSome_none]
    exact ⟨S1, (4, n), os1, ms, es3, es41, FJ, hU.symm, hmd, (k6 _).1, (k6 _).2, hF6, by omega, rfl, gr6⟩
  | some q =>
    rw [ht] at hU
    simp only at hU
    have h60 : S1.stack.length + d = 60 := by rw [hst1]; exact hd
    have hle60 : S1.stack.length ≤ 60 := by omega
    have hml := hV6.sm.len
    obtain ⟨Fm, hms, hFm⟩ := hV6.sm.slr
    simp (disch := first | omega | fail) only [amR Tryz.prog ro X, amS, seval, reduceCtorEq, ty3, ty4, ty9, ty22, ty56, ty58, ty79, ty81, ty82, ty83, ty84, ty85, ty87, ty168, e0, e1, e4, gp6, Option.isSome_some, hml]
    refine Wp.loopC (fun k f G => G = H6 ∧ f 0 = .pointer (some ⟨K.p, 0, none⟩) ∧ f 1 = .string n ∧ f 4 = .pointer (some ⟨A.size, 0, none⟩) ∧ f 7 = .pointer (some ⟨H.size + 1, 0, none⟩) ∧ f 8 = .pointer (some ⟨H.size + 2, 0, none⟩) ∧ f 68 = ms.v ∧ f 69 = .int .i64 S1.stack.length ∧
     ∃ i : Nat, i ≤ S1.stack.length ∧ k = S1.stack.length - i ∧ f 70 = .int .i64 i ∧ idxL n (S1.stack.take i) = none) (S1.stack.length - 0) ?_ ?_
    ·simp (disch := first | omega | fail) only [amV, amH, amQ, amL, amN Tryz.prog, amS, seval, reduceCtorEq, ty3, ty4, ty9, ty22, ty56, ty58, ty79, ty81, ty82, ty83, ty84, ty85, ty87, ty168, e0, e1, e4, hml]
     exact ⟨0, by omega, rfl, rfl, rfl⟩
    rintro k f G ⟨rfl, f0, f1, f4, f7, f8, f68, f69, i, hi, rfl, fI, hno⟩
    simp (disch := first | omega | fail) only [amR Tryz.prog ro X, amS, seval, reduceCtorEq, ty3, ty4, ty9, ty22, ty56, ty58, ty79, ty81, ty82, ty83, ty84, ty85, ty87, ty168, f0, f1, f4, f7, f8, f68, f69, fI]
    refine CondB.split (fun h => ?_) (fun h => ?_)
    ·have hil : i < S1.stack.length := by simpa using h
     obtain ⟨n1, b1', m1', i1, c1, q1⟩ := hms.str hil
     rw [aCell_eq] at c1
     by_cases hx : S1.stack[i] = n
     ·rw [idxL_here hil hno hx] at hU
      simp only at hU
      obtain ⟨sf, Ff, w1, w2, w3⟩ := (hms.ext (Ext.new G (.cells [] 1))).from (P := Tryz.prog) (t := 22) (by simp only [ty22]; rfl) (i := i) hi
      have w4 : SlR G sf (S1.stack.drop i) Ff := w2.frame fun b hb => by
       have := hms.bound b (w3 b hb)
       exact ⟨(AH.gNo (by omega)).symm, this⟩
      obtain ⟨t1, G2, hap, hacc, hE2⟩ := w4.copied (P := Tryz.prog) (ro := ro) (t := 22) (fun h => h.nofoot nofoot_Str) (by simp only [ty22]; rfl) (by omega) (by rw [List.length_drop]; omega)
      rw [show Dat.w ByteArray = 1 from rfl] at hap
      simp (disch := first | omega | fail) only [amR Tryz.prog ro X, amS, seval, reduceCtorEq, ty3, ty4, ty9, ty22, ty56, ty58, ty79, ty81, ty82, ty83, ty84, ty85, ty87, ty168, f0, f1, f4, f7, f8, f68, f69, fI, n1, c1, hx, gp6, w1, hap]
      obtain ⟨Fa, ha1, ha2⟩ := hacc.fresh (Fresh.nil _ _)
      subst hU
      exact ⟨(hV6.ext hJ hE2).done hJ (hX6.trans (hE2.x _)) (fun b hb => (hF6 b hb).1.imp id fun h => by omega) (L := []) (ExtX.refl _ _) (by simp), _, rfl, hpv _ _ _ ⟨t1, Fa, rfl, ha1, fun b hb => ⟨by have := ha2.lo b hb; omega, ha2.hi b hb⟩⟩⟩
     ·simp (disch := first | omega | fail) only [amR Tryz.prog ro X, amS, seval, reduceCtorEq, ty3, ty4, ty9, ty22, ty56, ty58, ty79, ty81, ty82, ty83, ty84, ty85, ty87, ty168, f0, f1, f4, f7, f8, f68, f69, fI, n1, c1, hx]
      exact ⟨S1.stack.length - (i + 1), by omega, i + 1, by omega, rfl, by simp, idxL_on hil hno hx⟩
    have hil : i = S1.stack.length := by simp at h; omega
    subst hil
    rw [List.take_length] at hno
    rw [hno] at hU
    simp only at hU
    cases d with
    | zero =>
      have hl60 : S1.stack.length = 60 := by omega
      simp only at hU
      simp (disch := first | omega | fail) only [amR Tryz.prog ro X, amS, seval, reduceCtorEq, ty3, ty4, ty9, ty22, ty56, ty58, ty79, ty81, ty82, ty83, ty84, ty85, ty87, ty168, f0, f1, f4, f7, f8, f68, f69, fI, gp6, hml, hl60]
      subst hU
      exact ⟨hV6.done hJ hX6 (fun b hb => (hF6 b hb).1.imp id fun h => by omega) (L := []) (ExtX.refl _ _) (by simp), _, rfl, hpv _ _ _ ⟨Sl.nil, [], rfl, .nil rfl rfl rfl, by simp⟩⟩
    | succ d =>
    have hl60 : ¬ (S1.stack.length : Int) = 60 := by omega
    simp only at hU
    have hne : ∀ b, (ms.nl = false → b ≠ ms.b) → ms.nl = true ∨ b ≠ ms.b := fun b hb => by
     cases ho : ms.nl
     ·exact .inr (hb ho)
     ·exact .inl rfl
    have hmb := hV6.sm.bd
    have hob := hV6.so.bd
    have hmf : ms.nl = false → ms.b ∈ ftp K os1 ms FJ := fun hn => mem_ftp.2 (by simp [hn])
    have hbd6 := hV6.bound
    have zG := hE16.size
    obtain ⟨m2, H7, p1, p2, p3, p4, p5, p6⟩ := (hV6.sm.ext (Ext.new G (.cells [.string n] 1))).push (P := Tryz.prog) (ro := ro) (by omega) (by simp only [AH.zN]; omega) (t := 22) (by simp only [ty22]) (x := Sl.v ⟨false, G.size, 0, 1, 1⟩) (v := n) (by simp [Sl.v, aSource, aRow_eq, AH.gNs, rowK]) (by unfold BIG; omega) (by omega)
    simp only [AH.zN] at p3 p4 p6
    have o7 : ∀ b, b < G.size → (ms.nl = false → b ≠ ms.b) → H7.get b = G.get b := fun b h1 h2 => (p4 b (by omega) (hne b h2)).trans (AH.gNo (by omega))
    have gp7 := (o7 K.p (by omega) fun hn => by have := hmb hn; omega).trans gp6
    have r87 := (o7 (H.size + 2) (by omega) fun hn => by have := (hbd1 _ (hmf hn)).1; omega).trans r8
    have r77 := (o7 (H.size + 1) (by omega) fun hn => by have := (hbd1 _ (hmf hn)).1; omega).trans r76
    have gr7 := (o7 A.size (by omega) fun hn e => hin1 (e ▸ hmf hn)).trans gr6
    simp (disch := first | omega | fail) only [amR Tryz.prog ro X, amS, seval, reduceCtorEq, ty3, ty4, ty9, ty22, ty56, ty58, ty79, ty81, ty82, ty83, ty84, ty85, ty87, ty168, f0, f1, f4, f7, f8, f68, f69, fI, gp6, hml, hl60, p1, gp7]
    have hmp : m2.b ≠ K.p := by
     rcases p6 with ⟨g, g'⟩ | g
     ·have := hmb g'; omega
     ·omega
    have hm2b : m2.nl = false → (m2.b = ms.b ∧ ms.nl = false) ∨ G.size ≤ m2.b := fun _ => by
     rcases p6 with g | g
     ·exact .inl g
     ·exact .inr (by omega)
    obtain ⟨v8, x8, y8⟩ := hV6.stack (ms' := m2) (A' := H7.put K.p (.cells (mcV K os1 m2) 7)) hJ (by simp only [AH.zP]; omega) (fun b g1 g2 g3 => (AH.gPo g2).trans (o7 b g1 g3)) (AH.gPs _ _ _) (p2.frame (by simp only [AH.zP]; omega) fun hn => AH.gPo hmp) hm2b
    unfold mcV at v8 x8
    generalize hH8 : AH.put H7 K.p _ = H8 at v8 x8 ⊢
    have z8 : H8.size = H7.size := by rw [← hH8]; rfl
    have gr8 : H8.get A.size = _ := (by rw [← hH8]; exact AH.gPo (by omega) : H8.get A.size = H7.get A.size).trans gr7
    have r88 : H8.get (H.size + 2) = _ := (by rw [← hH8]; exact AH.gPo (by omega) : H8.get (H.size + 2) = H7.get (H.size + 2)).trans r87
    have r78 : H8.get (H.size + 1) = _ := (by rw [← hH8]; exact AH.gPo (by omega) : H8.get (H.size + 1) = H7.get (H.size + 1)).trans r77
    clear hH8
    have gp8 := v8.gp
    unfold mcV at gp8
    rw [hfv] at gp8
    refine Wp.runG [] (by kernel_rfl) (.inl (by kernel_rfl)) ?_
    simp (disch := first | omega | fail) only [amR Tryz.prog ro X, amS, seval, reduceCtorEq, ty3, ty4, ty9, ty22, ty56, ty58, ty79, ty81, ty82, ty83, ty84, ty85, ty87, ty168, f0, f1, f4, f7, f8, gp8, r88]
    obtain ⟨Fq, hFq⟩ := hq2 q ht
    have hrm0 : lookL n S1.made = none := hmd
    obtain ⟨hP, hPl⟩ := pushS_ok hS1 hrm0 ht hno
    have hw := hmk.went _ (underG_ok hsp hmk d) (pushS S1 n) n q hP (hsp.prog ht)
    have hst := hmk.stack _ (underG_ok hsp hmk d) (pushS S1 n) n q
    refine (hM d rfl H8 (pushS S1 n) os1 m2 es3 es41 FJ n q sq Fq (by omega) v8 hP hn (hsp.prog ht) hFq (hRm1.push hP hPl rfl) (by show (S1.stack ++ [n]).length + d = 60; rw [List.length_append]; show S1.stack.length + 1 + d = 60; omega)).mono ?_
    generalize mk (underG mk K.sp d) (pushS S1 n) n q = g2 at hU hw hst
    obtain ⟨S2, res⟩ := g2
    rintro R H9 ⟨⟨os3, ms3, es33, es43, FJ3, v9, x9, y9⟩, hR⟩
    have z9 := x9.size
    replace v9 : MkV K J H9 S2 os3 ms3 es33 es43 FJ3 := v9
    have hX8 : ExtX (ftp K os ms FJ) A H8 := hX6.comp x8 fun b hb => (hF6 b hb).1.imp id fun h => by omega
    have hF8 : ∀ b ∈ ftp K os1 m2 FJ, (b ∈ ftp K os ms FJ ∨ A.size < b) ∧ b ≠ H.size + 1 ∧ b ≠ A.size := fun b hb => by
     rcases y8 b hb with h | h
     ·exact ⟨(hF6 b h).1, (hF6 b h).2, fun e => hin1 (e ▸ h)⟩
     ·exact ⟨.inr (by omega), by omega, by omega⟩
    have hX9 : ExtX (ftp K os ms FJ) A H9 := hX8.comp x9 fun b hb => (hF8 b hb).1.imp id fun h => by omega
    have hF9 : ∀ b ∈ ftp K os3 ms3 FJ3, (b ∈ ftp K os ms FJ ∨ A.size < b) ∧ b ≠ H.size + 1 ∧ b ≠ A.size := fun b hb => by
     rcases y9 b hb with h | h
     ·exact hF8 b h
     ·exact ⟨.inr (by omega), by omega, by omega⟩
    cases res with
    | error e =>
      obtain ⟨v, rfl, hv⟩ := hR
      simp only at hU
      subst hU
      simp (disch := first | omega | fail) only [amR Tryz.prog ro X, amS, seval, reduceCtorEq, ty3, ty4, ty9, ty22, ty56, ty58, ty79, ty81, ty82, ty83, ty84, ty85, ty87, ty168]
      exact ⟨v9.done hJ hX9 (fun b hb => (hF9 b hb).1.imp id fun h => by omega) (L := []) (ExtX.refl _ _) (by simp), v, rfl, hv⟩
    | ok x =>
    obtain rfl : R = .ret (madeV x) := hR
    have r79 := (x9.get (H.size + 1) (by omega) fun hm => (hF8 _ hm).2.1 rfl).trans r78
    have gr9 := (x9.get A.size (by omega) fun hm => (hF8 _ hm).2.2 rfl).trans gr8
    simp only at hU
    simp only [madeV]
    simp (disch := first | omega | fail) only [amR Tryz.prog ro X, amS, seval, reduceCtorEq, ty3, ty4, ty9, ty22, ty56, ty58, ty79, ty81, ty82, ty83, ty84, ty85, ty87, ty168, f0, f1, f4, f7, f8, r79]
    generalize hH10 : AH.put H9 (H.size + 1) _ = H10
    have z10 : H10.size = H9.size := by rw [← hH10]; rfl
    have hX910 : ExtX [H.size + 1] H9 H10 := by rw [← hH10]; exact (ExtX.refl _ _).put (by simp) _
    have r710 : H10.get (H.size + 1) = .cells [.int .i64 x.1, .string x.2, Sl.nil.v] 3 := by rw [← hH10]; exact AH.gPs _ _ _
    clear hH10
    have gr10 := (hX910.get A.size (by omega) (by simp only [List.mem_singleton]; omega)).trans gr9
    have v10 := v9.extx hJ hX910 fun b hb => by
     rw [List.mem_singleton.1 hb]
     exact ⟨by omega, fun hm => (hF9 _ hm).2.1 rfl⟩
    have hX10 : ExtX (ftp K os ms FJ) A H10 := hX9.comp hX910 fun b hb => .inr (by rw [List.mem_singleton.1 hb]; omega)
    have gp10 := v10.gp
    unfold mcV at gp10
    have hst2 : S2.stack = S1.stack ++ [n] := (hst x hP (hsp.prog ht) rfl).1
    have hl2' : S2.stack.length = S1.stack.length + 1 := by rw [hst2]; simp
    have hml3 : ms3.len = S1.stack.length + 1 := v10.sm.len.trans hl2'
    obtain ⟨m4, w1, w2, w3, w4⟩ := v10.sm.upto (P := Tryz.prog) (t := 22) (by simp only [ty22]) (i := S1.stack.length) (by omega)
    have e1' : ((S1.stack.length + 1 : Nat) : Int) - 1 = (S1.stack.length : Int) := by omega
    refine Wp.runG [] (by kernel_rfl) (.inl (by kernel_rfl)) ?_
    simp (disch := first | omega | fail) only [amR Tryz.prog ro X, amS, seval, reduceCtorEq, ty3, ty4, ty9, ty22, ty56, ty58, ty79, ty81, ty82, ty83, ty84, ty85, ty87, ty168, f0, f1, f4, f7, f8, gp10, hml3, e1', w1]
    have hpop : popS S2 = ⟨S2.asked, S2.made, S2.stack.take S1.stack.length, S2.ext⟩ := by unfold popS; rw [hl2', Nat.add_sub_cancel]
    have hmade : lookL n (popS S2).made = none := stack_unmade hw.ok (by show n ∈ S2.stack; rw [hst2]; simp)
    have hob3 := v10.so.bd
    have hmb3 := v10.sm.bd
    have hm4p : m4.nl = false → m4.b ≠ K.p := fun hn => by
     have := hmb3 (w3 ▸ hn); omega
    obtain ⟨v11, x11, y11⟩ := v10.stack (l := S2.stack.take S1.stack.length) (ms' := m4) (A' := H10.put K.p (.cells (mcV K os3 m4) 7)) hJ (Nat.le_refl _) (fun b g1 g2 g3 => AH.gPo g2) (AH.gPs _ _ _) (w2.frame (Nat.le_refl _) fun hn => AH.gPo (hm4p hn)) (fun hn => .inl ⟨w4, w3 ▸ hn⟩)
    refine ⟨popS S2, x, os3, m4, es33, es43, FJ3, hU.symm, hmade, by rw [hpop]; exact v11, hX10.comp x11 fun b hb => (hF9 b hb).1.imp id fun h => by omega, fun b hb => ?_, by omega, r710, gr10⟩
    rcases y11 b hb with h | h
    ·exact ⟨(hF9 b h).1, (hF9 b h).2.1⟩
    ·exact ⟨.inr (by omega), by omega⟩
 rintro e' H' ⟨x0, x1, x4, x7, S2, r, os2, ms2, es32, es42, FJ2, rfl, hm2, hV2, hX2, hF2, hz2, r72, gr2⟩
 have gp2 := hV2.gp
 unfold mcV at gp2
 have hbd2 := hV2.bound
 have hset3 := mset (P := Tryz.prog) (ro := ro) (A := H') (t := 83) (e := 79) (es := es32) (b := K.b3) (by simp only [ty83]) hV2.g3 (by omega) n (v := .agg #[.int .i64 r.1, .string r.2, Sl.nil.v]) rfl
 refine Wp.runG [] (by kernel_rfl) (.inl (by kernel_rfl)) ?_
 simp (disch := first | omega | fail) only [amR Tryz.prog ro X, amS, seval, reduceCtorEq, ty3, ty4, ty9, ty22, ty56, ty58, ty79, ty81, ty82, ty83, ty84, ty85, ty87, ty168, x0, x1, x4, x7, gp2, r72, gr2, hset3]
 obtain ⟨v3, x3⟩ := hV2.mades hJ (n := n) (r := r) (A' := H'.put K.b3 (.map (mp (kset es32 n (madeV r))))) hm2 (Nat.le_refl _) (fun b hb hn => AH.gPo hn) (AH.gPs _ _ _)
 refine ⟨v3.done hJ (hX2.comp x3 fun b hb => (hF2 b hb).1.imp id fun h => by omega) (fun b hb => (hF2 b hb).1.imp id fun h => by omega) (L := [A.size]) ((ExtX.refl _ _).put (by simp) _) (fun b hb => ?_), rfl⟩
 rw [List.mem_singleton.1 hb]
 refine ⟨by omega, Nat.le_refl _, fun hm => ?_⟩
 rcases (hF2 _ hm).1 with h | h
 ·have := (hftp _ h).1; omega
 ·omega
end Go.Proofs.YtmelgjblkmbhjaaGreatDoor.Amu.Under
