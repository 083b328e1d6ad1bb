import Derived.Test.YtmelgjblkmbhjaaGreatDoorAmuTy
import Derived.Test.YtmelgjblkmbhjaaGreatDoorAmSpk
import Derived.Test.YtmelgjblkmbhjaaGreatDoorAmuProg
import Derived.Test.YtmelgjblkmbhjaaGreatDoorAmuSpace
import Derived.Test.YtmelgjblkmbhjaaGreatDoorAmuSmk
import Derived.Test.YtmelgjblkmbhjaaGreatDoorAmuSrun
namespace Go.Proofs.YtmelgjblkmbhjaaGreatDoor.Amu.Smake
open Go Go.AM Go.Proofs
set_option linter.all false
open Ty
variable {ro : Nat} {X : FuncId → List Value → AH → ARes → AH → Prop}
set_option maxRecDepth 10000
theorem placeOf_at {α : Type} {n : ByteArray} {l : List (ByteArray × α)} {x : α} (h : lookL n l = some x) : ∃ (i : Nat) (hi : i < l.length), placeOf n l = i ∧ l[i] = (n, x) := by
 have key : ∀ l : List (ByteArray × α), lookL n l = some x → ∃ (i : Nat) (hi : i < l.length), l.findIdx? (fun x => decide (x.1 = n)) = some i ∧ l[i] = (n, x) := by
  intro l
  induction l with
  | nil => intro h; cases h
  | cons y l ih =>
    intro h
    unfold lookL at h
    rw [List.findIdx?_cons]
    split at h
    ·rename_i hy; cases h; exact ⟨0, by simp, by simp [hy], by simp [← hy]⟩
    ·rename_i hy
     obtain ⟨i, hi, e1, e2⟩ := ih h
     exact ⟨i + 1, by simpa using hi, by simp [hy, e1], by simpa using e2⟩
 obtain ⟨i, hi, e1, e2⟩ := key l h
 exact ⟨i, hi, by unfold placeOf; rw [e1], e2⟩
theorem placeOf_no {α : Type} {n : ByteArray} {l : List (ByteArray × α)} (h : lookL n l = none) : placeOf n l = -1 :=
 placeOf_none fun y hy e => lookL_none h (List.mem_map.2 ⟨y, hy, e⟩)
set_option maxHeartbeats 4000000 in
theorem smake_a {K : Skc} {d : Nat} (hB : ro ≤ K.B.size) (hl1 : K.sp.1.length ≤ 200) (hl2 : K.sp.2.length ≤ 200) (hsp : SpOk K.sp)
 (hR : ∀ e, d = e + 1 → SRunC Tryz.prog ro X 172 K e (underG (cleanMk K.sp) K.sp e)) : SMakeC Tryz.prog ro X 138 K d (underG (cleanMk K.sp) K.sp d) := by
 intro A S0 md st G n hro hV hI hS hn hRm hd
 have hftp := hV.bound
 have hbs := hV.base.size
 have hns := name_size hn
 have halen : S0.asked.length < 4294967294 := by unfold Room at hRm; omega
 generalize hU : underG (cleanMk K.sp) K.sp d S0 n = g
 unfold underG at hU
 simp only at hU
 refine ACalls.enterQ (rs := [.cell 4 79]) Tryz.func138 rfl (by kernel_rfl) rfl ?_
 simp (disch := first | omega | fail) only [amR Tryz.prog ro X, amS, seval, reduceCtorEq, ty3, ty4, ty9, ty22, ty42, ty43, ty45, ty56, ty58, ty79, ty147, ty149, ty154, ty156, ty157, ty159, ty208]
 generalize hH : A.new _ = H
 have zH : H.size = A.size + 1 := by rw [← hH]; rfl
 have hEH : Ext A H := by rw [← hH]; exact (by ((repeat' (first | exact Ext.refl _ | assumption | refine Ext.trans ?_ (Ext.new _ _) | refine Ext.put ?_ ?_ _ | refine Ext.trans ?_ (by assumption))) <;> (first | omega | (simp only [AH.zN, AH.zP] <;> omega))))
 have gr : H.get A.size = .cells [.int .i64 0, .string ByteArray.empty, Sl.nil.v] 3 := by rw [← hH]; exact AH.gNs _ _
 clear hH
 have hVH := hV.ext hEH
 have gp := hVH.gp
 unfold scV at gp
 have hp1 := hV.p1
 have hp0 := hV.p0
 have hin : A.size ∉ ftpS K md st G := fun hm => by have := (hftp _ hm).2; omega
 refine (Smk.find_a hVH n (by omega)).mono ?_
 rintro R H ⟨rfl, rfl⟩
 unfold idxI
 cases hi : idxL n S0.asked with
 | some k =>
   rw [rowsOf_asked (by rw [hi]; simp)] at hU
   obtain ⟨ha1, ha2, ha3⟩ := idxL_some hi
   obtain ⟨c1, c2, s2, y, m1, m2, m3, m4, m5, m6, m7, m8, m9, m10, _, _⟩ := hVH.row (k := k) (by rw [rowsOf_len]; exact ha1)
   have hy : y = rowOf S0 n := by
    rw [m7, rowsOf_get]
    congr 1
    obtain ⟨q1, q2⟩ := List.getElem?_eq_some_iff.1 ha2
    exact q2
   have k0 : (0 : Int) ≤ (k : Int) := by omega
   have k1 : ¬ (k : Int) < 0 := by omega
   have hc5 : cellK (md.o + k * 6 + 5) (H.get md.b) = some (.bool y.2.2.2) := by
    rw [m8, m2, Nat.zero_add, cellK_mid m9 5 (by simp)]; rfl
   have hr1 : rowK (md.o + k * 6 + 1) 3 (H.get md.b) = some [.int .i64 y.2.1.1, .string y.2.1.2.1, Sl.nil.v] := by
    rw [m8, m2, Nat.zero_add, rowK_mid m9 1 3 (by simp)]; rfl
   cases hmd : lookL n S0.made with
   | some r =>
     rw [hmd] at hU
     simp only at hU
     subst hU
     have hrow : y = (n, (r.1, r.2, .mk), (lookL n S0.ext).getD [], true) := by rw [hy]; unfold rowOf; rw [hmd]
     rw [hrow] at hc5 hr1
     simp only at hc5 hr1
     simp (disch := first | omega | fail) only [amR Tryz.prog ro X, amS, seval, reduceCtorEq, ty3, ty4, ty9, ty22, ty42, ty43, ty45, ty56, ty58, ty79, ty147, ty149, ty154, ty156, ty157, ty159, ty208, gp, gr, m1, hc5, hr1, k0, k1]
     have hX1 : ExtX [A.size] H (H.put A.size (.cells [.int .i64 r.1, .string r.2, Sl.nil.v] 3)) := (ExtX.refl _ _).put (by simp) _
     exact ⟨rfl, md, st, G, hVH.extx hX1 (fun b hb => by rw [List.mem_singleton.1 hb]; exact ⟨hbs, hin⟩), ⟨by simp only [AH.zP]; omega, fun b hb hm => (AH.gPo (by omega)).trans (hEH.get b hb)⟩, fun b hb => .inl hb⟩
   | none =>
     have hrow : y = (n, (0, ⟨#[]⟩, .mk), [], false) := by rw [hy]; unfold rowOf; rw [hmd]
     rw [hrow] at hc5 hr1
     simp only at hc5 hr1
     simp (disch := first | omega | fail) only [amR Tryz.prog ro X, amS, seval, reduceCtorEq, ty3, ty4, ty9, ty22, ty42, ty43, ty45, ty56, ty58, ty79, ty147, ty149, ty154, ty156, ty157, ty159, ty208, gp, gr, m1, hc5, hr1, k0, k1]
     obtain ⟨S, hSS⟩ : ∃ S, S = S0 := ⟨_, rfl⟩
     obtain ⟨H1, hHH⟩ : ∃ H1, H1 = H := ⟨_, rfl⟩
     obtain ⟨md1, hmm⟩ : ∃ m, m = md := ⟨_, rfl⟩
     obtain ⟨G1, hGG⟩ : ∃ m, m = G := ⟨_, rfl⟩
     rw [← hSS] at hmd hU hi
     have z1 : A.size < H1.size := by rw [hHH]; omega
     have hV1 : SpV K H1 S md1 st G1 x0R .nil false := by rw [hHH, hSS, hmm, hGG]; exact hVH
     have gr1 : H1.get A.size = .cells [.int .i64 0, .string ByteArray.empty, Sl.nil.v] 3 := by rw [hHH]; exact gr
     have hX1 : ExtX (ftpS K md st G) A H1 := by rw [hHH]; exact hEH.x _
     have hF1 : ∀ b ∈ ftpS K md1 st G1, (b ∈ ftpS K md st G ∨ A.size ≤ b) ∧ b ≠ A.size := fun b hb => by
      rw [hmm, hGG] at hb
      exact ⟨.inl hb, fun e => hin (e ▸ hb)⟩
     have hI1 : InvS K.sp S := by rw [hSS]; exact hI
     have hS1 : ShopOk K.sp S := by rw [hSS]; exact hS
     have hRm1 : Room 202 K.sp 0 S := by rw [hSS]; exact hRm.less (by omega)
     have hst1 : S.stack = S0.stack := by rw [hSS]
     have hk : idxL n S.asked = some k := hi
     rw [hmd] at hU
     simp only at hU
     rw [← hHH]
     generalize ftpS K md st G = Fp at *
     clear hV hVH gp gr hc5 hr1 hrow hy hftp hi hHH hI hS hRm
     obtain ⟨F1, q1⟩ := hV1.src
     obtain ⟨F2, q2⟩ := hV1.tgt
     refine (Smk.l3Source_a H1 (by omega) K.s1 K.s2 K.sp F1 (q1.ext hV1.base) n (by omega)).mono ?_
     rintro R H2 ⟨rfl, hE2⟩
     have z2 := hE2.size
     have hV2 := hV1.ext hE2
     have gp2 := hV2.gp
     unfold scV at gp2
     have gr2 := (hE2.get A.size (by omega)).trans gr1
     simp (disch := first | omega | fail) only [amR Tryz.prog ro X, amS, seval, reduceCtorEq, ty3, ty4, ty9, ty22, ty42, ty43, ty45, ty56, ty58, ty79, ty147, ty149, ty154, ty156, ty157, ty159, ty208, gp2]
     refine (Space.l3Target_a H2 (by omega) K.s1 K.s2 K.sp F2 (q2.ext hV2.base) n (by omega)).mono ?_
     rintro R H3 ⟨rfl, hE3⟩
     have z3 := hE3.size
     have hE13 := hE2.trans hE3
     have hV3 := hV2.ext hE3
     have gp3 := hV3.gp
     unfold scV at gp3
     have gr3 := (hE3.get A.size (by omega)).trans gr2
     have hak := (idxL_some hk).1
     have hkn : S.asked[k] = n := by obtain ⟨w1, w2⟩ := List.getElem?_eq_some_iff.1 (idxL_some hk).2.1; exact w2
     have hX3 : ExtX Fp A H3 := hX1.trans (hE13.x _)
     have bd1 := hV1.bound
     have ap1 := hV1.apart
     cases ht : tgtR K.sp n with
     | none =>
       have e2 : placeOf n K.sp.2 = -1 := placeOf_no ht
       have n1' : (-1 : Int) < 0 := by decide
       have n0' : ¬ (0 : Int) ≤ -1 := by decide
       rw [ht] at hU
       cases hs : srcR K.sp n with
       | some t =>
         rw [hs] at hU
         simp only at hU
         obtain ⟨i, hil, e1, e3⟩ := placeOf_at hs
         have i0 : (0 : Int) ≤ (i : Int) := by omega
         obtain ⟨cc, w1, w2, w3, w4, w5, w6, _, _, w7⟩ := (q1.ext hV3.base).source hil
         rw [e3] at w6 w7
         simp only at w6 w7
         simp (disch := first | omega | fail) only [amR Tryz.prog ro X, amS, seval, reduceCtorEq, ty3, ty4, ty9, ty22, ty42, ty43, ty45, ty56, ty58, ty79, ty147, ty149, ty154, ty156, ty157, ty159, ty208, gp3, gr3, e1, e2, n1', i0, w1, w4, w6]
         generalize hH4 : AH.put (AH.put (H3.new _) H3.size _) H3.size _ = H4
         have z4 : H4.size = H3.size + 1 := by rw [← hH4]; rfl
         have hE4 : Ext H3 H4 := by rw [← hH4]; exact (by ((repeat' (first | exact Ext.refl _ | assumption | refine Ext.trans ?_ (Ext.new _ _) | refine Ext.put ?_ ?_ _ | refine Ext.trans ?_ (by assumption))) <;> (first | omega | (simp only [AH.zN, AH.zP] <;> omega))))
         have g8 : H4.get H3.size = .cells [.int .i64 0, .string t, Sl.nil.v] 3 := by rw [← hH4]; exact AH.gPs _ _ _
         clear hH4
         have hV4 := hV3.ext hE4
         have gp4 := hV4.gp
         unfold scV at gp4
         have gr4 := (hE4.get A.size (by omega)).trans gr3
         obtain ⟨c1, c2, s2, y, m1, m2, m3, m4, m5, m6, m7, m8, m9, m10, hs2, hfill⟩ := hV4.row (k := k) (by rw [rowsOf_len]; exact hak)
         have hyn : y.1 = n := by rw [m7, rowsOf_get, rowOf_name]; exact hkn
         obtain ⟨cs, hcs⟩ : ∃ cs, cs = c1 ++ ([.string y.1, .int .i64 y.2.1.1, .string y.2.1.2.1, Sl.nil.v, Sl.v s2, .bool y.2.2.2] ++ c2) := ⟨_, rfl⟩
         rw [← hcs] at m8
         have hcl : k * 6 + 6 ≤ cs.length := by rw [hcs]; simp only [List.length_append, List.length_cons, List.length_nil]; omega
         have hcl2 : ∀ o vs, (setCells cs o vs).length = cs.length := fun o vs => setCells_length _ _ _
         have hmb := bd1 _ (mem_ftpS.2 (.inr (.inl ⟨m1, rfl⟩)))
         have hmr : md1.b ≠ A.size := fun e => (hF1 _ (mem_ftpS.2 (.inr (.inl ⟨m1, rfl⟩)))).2 e
         refine Wp.runG [] (by kernel_rfl) (.inl (by kernel_rfl)) ?_
         simp (disch := first | omega | fail) only [amR Tryz.prog ro X, amS, seval, reduceCtorEq, ty3, ty4, ty9, ty22, ty42, ty43, ty45, ty56, ty58, ty79, ty147, ty149, ty154, ty156, ty157, ty159, ty208, gp4, gr4, g8, m1, m8, hcl2]
         obtain ⟨F2', k1, k2⟩ := hs2
         have hrow : y = (n, (0, ⟨#[]⟩, .mk), [], false) := by
          rw [m7, rowsOf_get]
          unfold rowOf
          rw [hkn, hmd]
         have hcell : setCells (setCells cs (md1.o + k * 6 + 1) [.int .i64 0, .string t, Sl.nil.v]) (md1.o + k * 6 + 5) [.bool true] = c1 ++ ([.string y.1, .int .i64 0, .string t, Sl.nil.v, Sl.v s2, .bool true] ++ c2) := by
          rw [hcs, m2, Nat.zero_add, setCells_mid _ c1 _ _ 1 m9 (by simp), setCells_mid _ c1 _ _ 5 m9 (by simp [setCells])]
          rfl
         generalize hHx : AH.put (AH.put H4 md1.b _) md1.b _ = Hx
         have zx : Hx.size = H4.size := by rw [← hHx]; rfl
         have hx1 : Hx.get md1.b = .cells (c1 ++ ([.string y.1, .int .i64 0, .string t, Sl.nil.v, Sl.v s2, .bool true] ++ c2)) 6 := by
          rw [← hHx, AH.gPs]
          exact congrArg (fun l => AObj.cells l 6) hcell
         have hx2 : ∀ b, b ≠ md1.b → Hx.get b = H4.get b := fun b hb => by rw [← hHx]; exact (AH.gPo hb).trans (AH.gPo hb)
         clear hHx
         have ap4 := hV4.apart
         have hF2b : ∀ b ∈ F2', b ≠ md1.b ∧ b < H4.size := fun b hb => ⟨(ap4.2.2.2.1 b (k2 b hb)).2.1 m1, hV4.smd.bound b (k2 b hb)⟩
         obtain ⟨G', v', x', y'⟩ := hfill Hx (madeS S n (0, t)) (0, t) y.2.2.1 s2 F2' (by show t.size < BIG; unfold BIG; omega) hx1 (by omega) (fun b hb hn => hx2 b hn) (k1.frame fun b hb => ⟨hx2 b (hF2b b hb).1, by have := hF2b b hb; omega⟩)
          (fun b hb => by
            obtain ⟨w1, w2, w3⟩ := hV4.g3 b (k2 b hb)
            exact ⟨w1, (hF2b b hb).1, w2, (hx2 b (hF2b b hb).1).trans w3⟩) (by rw [hrow]; exact rowsOf_madeS hI1 hk hmd) rfl
         subst hU
         have hX5 : ExtX [A.size] Hx (Hx.put A.size (.cells [.int .i64 0, .string t, Sl.nil.v] 3)) := (ExtX.refl _ _).put (by simp) _
         have hG' : ∀ b ∈ ftpS K md1 st G', b ∈ ftpS K md1 st G1 := fun b hb => by
          rcases mem_ftpS.1 hb with e | e | e | e
          ·exact mem_ftpS.2 (.inl e)
          ·exact mem_ftpS.2 (.inr (.inl e))
          ·exact mem_ftpS.2 (.inr (.inr (.inl e)))
          ·rcases y' b e with e | e
           ·exact mem_ftpS.2 (.inr (.inr (.inr e)))
           ·exact mem_ftpS.2 (.inr (.inr (.inr (k2 b e))))
         have hmF := hF1 md1.b (mem_ftpS.2 (.inr (.inl ⟨m1, rfl⟩)))
         refine ⟨rfl, md1, st, G', v'.extx hX5 (fun b hb => ?_), ⟨by simp only [AH.zP]; omega, fun b hb hm => ?_⟩, fun b hb => (hF1 b (hG' b hb)).1⟩
         ·rw [List.mem_singleton.1 hb]
          exact ⟨by omega, fun hm => (hF1 _ (hG' _ hm)).2 rfl⟩
         ·refine (AH.gPo (by omega)).trans ((hx2 b fun e => ?_).trans ((hE4.get b (by omega)).trans (hX3.get b hb hm)))
          rcases hmF.1 with h | h
          ·exact hm (e ▸ h)
          ·omega
       | none =>
         rw [hs] at hU
         simp only at hU
         have e1 : placeOf n K.sp.1 = -1 := placeOf_no hs
         simp (disch := first | omega | fail) only [amR Tryz.prog ro X, amS, seval, reduceCtorEq, ty3, ty4, ty9, ty22, ty42, ty43, ty45, ty56, ty58, ty79, ty147, ty149, ty154, ty156, ty157, ty159, ty208, gp3, gr3, e1, e2, n1', n0']
         generalize hH4 : AH.put (H3.new _) H3.size _ = H4
         have z4 : H4.size = H3.size + 1 := by rw [← hH4]; rfl
         have hE4 : Ext H3 H4 := by rw [← hH4]; exact (by ((repeat' (first | exact Ext.refl _ | assumption | refine Ext.trans ?_ (Ext.new _ _) | refine Ext.put ?_ ?_ _ | refine Ext.trans ?_ (by assumption))) <;> (first | omega | (simp only [AH.zN, AH.zP] <;> omega))))
         have g8 : H4.get H3.size = .cells [.int .i64 4, .string n, Sl.nil.v] 3 := by rw [← hH4]; exact AH.gPs _ _ _
         clear hH4
         have hV4 := hV3.ext hE4
         have gp4 := hV4.gp
         unfold scV at gp4
         have gr4 := (hE4.get A.size (by omega)).trans gr3
         obtain ⟨c1, c2, s2, y, m1, m2, m3, m4, m5, m6, m7, m8, m9, m10, hs2, hfill⟩ := hV4.row (k := k) (by rw [rowsOf_len]; exact hak)
         have hyn : y.1 = n := by rw [m7, rowsOf_get, rowOf_name]; exact hkn
         obtain ⟨cs, hcs⟩ : ∃ cs, cs = c1 ++ ([.string y.1, .int .i64 y.2.1.1, .string y.2.1.2.1, Sl.nil.v, Sl.v s2, .bool y.2.2.2] ++ c2) := ⟨_, rfl⟩
         rw [← hcs] at m8
         have hcl : k * 6 + 6 ≤ cs.length := by rw [hcs]; simp only [List.length_append, List.length_cons, List.length_nil]; omega
         have hcl2 : ∀ o vs, (setCells cs o vs).length = cs.length := fun o vs => setCells_length _ _ _
         have hmb := bd1 _ (mem_ftpS.2 (.inr (.inl ⟨m1, rfl⟩)))
         have hmr : md1.b ≠ A.size := fun e => (hF1 _ (mem_ftpS.2 (.inr (.inl ⟨m1, rfl⟩)))).2 e
         refine Wp.runG [] (by kernel_rfl) (.inl (by kernel_rfl)) ?_
         simp (disch := first | omega | fail) only [amR Tryz.prog ro X, amS, seval, reduceCtorEq, ty3, ty4, ty9, ty22, ty42, ty43, ty45, ty56, ty58, ty79, ty147, ty149, ty154, ty156, ty157, ty159, ty208, gp4, gr4, g8, m1, m8, hcl2]
         obtain ⟨F2', k1, k2⟩ := hs2
         have hrow : y = (n, (0, ⟨#[]⟩, .mk), [], false) := by
          rw [m7, rowsOf_get]
          unfold rowOf
          rw [hkn, hmd]
         have hcell : setCells (setCells cs (md1.o + k * 6 + 1) [.int .i64 4, .string n, Sl.nil.v]) (md1.o + k * 6 + 5) [.bool true] = c1 ++ ([.string y.1, .int .i64 4, .string n, Sl.nil.v, Sl.v s2, .bool true] ++ c2) := by
          rw [hcs, m2, Nat.zero_add, setCells_mid _ c1 _ _ 1 m9 (by simp), setCells_mid _ c1 _ _ 5 m9 (by simp [setCells])]
          rfl
         generalize hHx : AH.put (AH.put H4 md1.b _) md1.b _ = Hx
         have zx : Hx.size = H4.size := by rw [← hHx]; rfl
         have hx1 : Hx.get md1.b = .cells (c1 ++ ([.string y.1, .int .i64 4, .string n, Sl.nil.v, Sl.v s2, .bool true] ++ c2)) 6 := by
          rw [← hHx, AH.gPs]
          exact congrArg (fun l => AObj.cells l 6) hcell
         have hx2 : ∀ b, b ≠ md1.b → Hx.get b = H4.get b := fun b hb => by rw [← hHx]; exact (AH.gPo hb).trans (AH.gPo hb)
         clear hHx
         have ap4 := hV4.apart
         have hF2b : ∀ b ∈ F2', b ≠ md1.b ∧ b < H4.size := fun b hb => ⟨(ap4.2.2.2.1 b (k2 b hb)).2.1 m1, hV4.smd.bound b (k2 b hb)⟩
         obtain ⟨G', v', x', y'⟩ := hfill Hx (madeS S n (4, n)) (4, n) y.2.2.1 s2 F2' (by show n.size < BIG; unfold BIG; omega) hx1 (by omega) (fun b hb hn => hx2 b hn) (k1.frame fun b hb => ⟨hx2 b (hF2b b hb).1, by have := hF2b b hb; omega⟩)
          (fun b hb => by
            obtain ⟨w1, w2, w3⟩ := hV4.g3 b (k2 b hb)
            exact ⟨w1, (hF2b b hb).1, w2, (hx2 b (hF2b b hb).1).trans w3⟩) (by rw [hrow]; exact rowsOf_madeS hI1 hk hmd) rfl
         subst hU
         have hX5 : ExtX [A.size] Hx (Hx.put A.size (.cells [.int .i64 4, .string n, Sl.nil.v] 3)) := (ExtX.refl _ _).put (by simp) _
         have hG' : ∀ b ∈ ftpS K md1 st G', b ∈ ftpS K md1 st G1 := fun b hb => by
          rcases mem_ftpS.1 hb with e | e | e | e
          ·exact mem_ftpS.2 (.inl e)
          ·exact mem_ftpS.2 (.inr (.inl e))
          ·exact mem_ftpS.2 (.inr (.inr (.inl e)))
          ·rcases y' b e with e | e
           ·exact mem_ftpS.2 (.inr (.inr (.inr e)))
           ·exact mem_ftpS.2 (.inr (.inr (.inr (k2 b e))))
         have hmF := hF1 md1.b (mem_ftpS.2 (.inr (.inl ⟨m1, rfl⟩)))
         refine ⟨rfl, md1, st, G', v'.extx hX5 (fun b hb => ?_), ⟨by simp only [AH.zP]; omega, fun b hb hm => ?_⟩, fun b hb => (hF1 b (hG' b hb)).1⟩
         ·rw [List.mem_singleton.1 hb]
          exact ⟨by omega, fun hm => (hF1 _ (hG' _ hm)).2 rfl⟩
         ·refine (AH.gPo (by omega)).trans ((hx2 b fun e => ?_).trans ((hE4.get b (by omega)).trans (hX3.get b hb hm)))
          rcases hmF.1 with h | h
          ·exact hm (e ▸ h)
          ·omega
     | some q =>
       have hs : srcR K.sp n = none := by
        cases hs : srcR K.sp n with
        | none => rfl
        | some t => have := hsp.apart n t hs; rw [ht] at this; cases this
       rw [hs, ht] at hU
       simp only at hU
       obtain ⟨j, hjl, e2, e3⟩ := placeOf_at ht
       have j1 : ¬ (j : Int) < 0 := by omega
       have hsl := hV3.sst.len
       obtain ⟨Fs, hss, hFs⟩ := hV3.sst.slr
       have h60 : S.stack.length + d = 60 := by rw [hst1]; exact hd
       have ap3 := hV3.apart
       have hmF : ∀ b ∈ ftpS K md1 st G1, b < H3.size := fun b hb => by have := (bd1 b hb).2; omega
       simp (disch := first | omega | fail) only [amR Tryz.prog ro X, amS, seval, reduceCtorEq, ty3, ty4, ty9, ty22, ty42, ty43, ty45, ty56, ty58, ty79, ty147, ty149, ty154, ty156, ty157, ty159, ty208, gp3, gr3, e2, j1]
       refine Wp.loopC (fun r f G => G = H3 ∧ f 0 = .pointer (some ⟨K.p, 0, none⟩) ∧ f 1 = .string n ∧ f 4 = .pointer (some ⟨A.size, 0, none⟩) ∧ f 5 = .int .i64 k ∧ f 7 = .int .i64 j ∧ ∃ i : Nat, i ≤ S.stack.length ∧ r = S.stack.length - i ∧ f 9 = .int .i64 i ∧ idxL n (S.stack.take i) = none) (S.stack.length - 0) ?_ ?_
       ·simp (disch := first | omega | fail) only [amV, amH, amQ, amL, amN Tryz.prog, amS, seval, reduceCtorEq, ty3, ty4, ty9, ty22, ty42, ty43, ty45, ty56, ty58, ty79, ty147, ty149, ty154, ty156, ty157, ty159, ty208]
        exact ⟨0, by omega, rfl, rfl, rfl⟩
       rintro r f G ⟨rfl, f0, f1, f4, f5, f7, i, hi', rfl, f9, hno⟩
       have hpA : K.p ≠ A.size := fun e => (hF1 _ (mem_ftpS.2 (.inl rfl))).2 e
       have hp3 := hV3.p1
       have hp0' := hV3.p0
       simp (disch := first | omega | fail) only [amR Tryz.prog ro X, amS, seval, reduceCtorEq, ty3, ty4, ty9, ty22, ty42, ty43, ty45, ty56, ty58, ty79, ty147, ty149, ty154, ty156, ty157, ty159, ty208, f0, f1, f4, f5, f7, f9, gp3, hsl]
       refine CondB.split (fun h => ?_) (fun h => ?_)
       ·have hil : i < S.stack.length := by simpa using h
        obtain ⟨n1, b1', m1', i1, c1, q1'⟩ := hss.str hil
        rw [aCell_eq] at c1
        by_cases hx : S.stack[i] = n
        ·rw [idxL_here hil hno hx] at hU
         simp only at hU
         obtain ⟨Ha, hHa⟩ : ∃ Ha, Ha = G.put K.p (.cells [K.s1.v, K.s2.v, md1.v, st.v, .int .i64 x0R.1, .string x0R.2.1, Sl.nil.v, .bool true] 8) := ⟨_, rfl⟩
         have za : Ha.size = G.size := by rw [hHa]; rfl
         have oa : ∀ b, b ≠ K.p → Ha.get b = G.get b := fun b hb => by rw [hHa]; exact AH.gPo hb
         have hssA : SlR Ha st S.stack Fs := hss.frame fun b hb => by
          obtain ⟨w1, w2, w3, w4⟩ := hFs b hb
          exact ⟨oa b (by rw [w1]; exact ap3.2.1 w4), by omega⟩
         obtain ⟨sf, Ff, w1, w2, w3⟩ := (hssA.ext (Ext.new Ha (.cells [] 1))).from (P := Tryz.prog) (t := 22) (by simp only [ty22]; rfl) (i := i) hi'
         have w4 : SlR Ha sf (S.stack.drop i) Ff := w2.frame fun b hb => by
          have := hssA.bound b (w3 b hb)
          exact ⟨(AH.gNo (by omega)).symm, this⟩
         obtain ⟨t1, H5, hap, hacc, hE5⟩ := w4.copied (P := Tryz.prog) (ro := ro) (t := 22) (fun h => h.nofoot nofoot_Str) (by simp only [ty22]; rfl) (by omega) (by rw [List.length_drop]; omega)
         rw [show Dat.w ByteArray = 1 from rfl] at hap
         have z5 := hE5.size
         have gpa : Ha.get K.p = .cells [K.s1.v, K.s2.v, md1.v, st.v, .int .i64 x0R.1, .string x0R.2.1, Sl.nil.v, .bool true] 8 := by rw [hHa]; exact AH.gPs _ _ _
         have gp5 := (hE5.get K.p (by omega)).trans gpa
         have gr5 := (hE5.get A.size (by omega)).trans ((oa _ (Ne.symm hpA)).trans gr3)
         rw [hHa] at w1 hap
         simp only [AH.zP] at hap
         simp (maxSteps := 2000000) (disch := first | omega | (simp only [AH.zN, AH.zP] <;> omega) | fail) only [amR Tryz.prog ro X, amS, seval, reduceCtorEq, ty3, ty4, ty9, ty22, ty42, ty43, ty45, ty56, ty58, ty79, ty147, ty149, ty154, ty156, ty157, ty159, ty208, f0, f1, f4, f5, f7, f9, n1, c1, hx, gp3, w1, hap, gp5, gr5]
         obtain ⟨Fa, ha1, ha2⟩ := hacc.fresh (Fresh.nil _ _)
         generalize hH6 : AH.put H5 K.p _ = H6
         have z6 : H6.size = H5.size := by rw [← hH6]; rfl
         have gp6 : H6.get K.p = .cells (scV K md1 st (6, ⟨#[]⟩, S.stack.drop i) t1 true) 8 := by rw [← hH6]; exact AH.gPs _ _ _
         have o6 : ∀ b, b ≠ K.p → H6.get b = H5.get b := fun b hb => by rw [← hH6]; exact AH.gPo hb
         clear hH6
         obtain ⟨v6, x6⟩ := hV3.over (A1 := H6) (x' := (6, ⟨#[]⟩, S.stack.drop i)) (ch' := t1) (dead' := true) (by omega) (fun b hb hp => (o6 b hp).trans ((hE5.get b (by omega)).trans (oa b hp))) gp6
         have hX7 : ExtX [A.size] H6 (H6.put A.size (.cells [.int .i64 6, .string ByteArray.empty, t1.v] 3)) := (ExtX.refl _ _).put (by simp) _
         subst hU
         refine ⟨(6, ⟨#[]⟩, S.stack.drop i), t1, Fa, rfl, rfl, SlR.frame ha1 fun b hb => ?_, fun b hb => by have := ha2.lo b hb; omega, md1, st, G1, v6.extx hX7 (fun b hb => ?_), ⟨by simp only [AH.zP]; omega, fun b hb hm => ?_⟩, fun b hb => (hF1 b hb).1⟩
         ·have := ha2.lo b hb
          have := ha2.hi b hb
          exact ⟨(AH.gPo (by omega)).trans (o6 b (by omega)), by simp only [AH.zP]; omega⟩
         ·rw [List.mem_singleton.1 hb]
          exact ⟨by omega, fun hm => (hF1 _ hm).2 rfl⟩
         ·refine (AH.gPo (by omega)).trans ((x6.get b (by omega) fun h => ?_).trans (hX3.get b hb hm))
          rcases (hF1 b h).1 with h | h
          ·exact hm h
          ·omega
        ·simp (disch := first | omega | fail) only [amR Tryz.prog ro X, amS, seval, reduceCtorEq, ty3, ty4, ty9, ty22, ty42, ty43, ty45, ty56, ty58, ty79, ty147, ty149, ty154, ty156, ty157, ty159, ty208, f0, f1, f4, f5, f7, f9, gp3, n1, c1, hx]
         exact ⟨S.stack.length - (i + 1), by omega, i + 1, by omega, rfl, by simp, idxL_on hil hno hx⟩
       have hil : i = S.stack.length := by simp at h; omega
       subst hil
       rw [List.take_length] at hno
       rw [hno] at hU
       simp only at hU
       cases d with
       | zero =>
         have hl60 : (60 : Int) ≤ S.stack.length := by omega
         simp only at hU
         simp (disch := first | omega | fail) only [amR Tryz.prog ro X, amS, seval, reduceCtorEq, ty3, ty4, ty9, ty22, ty42, ty43, ty45, ty56, ty58, ty79, ty147, ty149, ty154, ty156, ty157, ty159, ty208, f0, f1, f4, f5, f7, f9, gp3, gr3, hsl, hl60]
         generalize hH6 : AH.put (G.put K.p _) K.p _ = H6
         have z6 : H6.size = G.size := by rw [← hH6]; rfl
         have gp6 : H6.get K.p = .cells (scV K md1 st (7, n, []) .nil true) 8 := by rw [← hH6]; exact AH.gPs _ _ _
         have o6 : ∀ b, b ≠ K.p → H6.get b = G.get b := fun b hb => by rw [← hH6]; exact (AH.gPo hb).trans (AH.gPo hb)
         clear hH6
         obtain ⟨v6, x6⟩ := hV3.over (A1 := H6) (x' := (7, n, [])) (ch' := .nil) (dead' := true) (by omega) (fun b hb hp => o6 b hp) gp6
         have hX7 : ExtX [A.size] H6 (H6.put A.size (.cells [.int .i64 7, .string n, Sl.nil.v] 3)) := (ExtX.refl _ _).put (by simp) _
         subst hU
         refine ⟨(7, n, []), .nil, [], rfl, rfl, .nil rfl rfl rfl, (by simp), md1, st, G1, v6.extx hX7 (fun b hb => ?_), ⟨by simp only [AH.zP]; omega, fun b hb hm => ?_⟩, fun b hb => (hF1 b hb).1⟩
         ·rw [List.mem_singleton.1 hb]
          exact ⟨by omega, fun hm => (hF1 _ hm).2 rfl⟩
         ·refine (AH.gPo (by omega)).trans ((x6.get b (by omega) fun h => ?_).trans (hX3.get b hb hm))
          rcases (hF1 b h).1 with h | h
          ·exact hm h
          ·omega
       | succ d =>
       have hl60 : ¬ (60 : Int) ≤ S.stack.length := by omega
       simp only at hU
       obtain ⟨m2, H7, p1, p2, p3, p4, p5, p6⟩ := (hV3.sst.ext (Ext.new G (.cells [.string n] 1))).push (P := Tryz.prog) (ro := ro) hB (by simp only [AH.zN]; have := hV3.base.size; omega) (t := 22) (by simp only [ty22]) (x := Sl.v ⟨false, G.size, 0, 1, 1⟩) (v := n) (by simp [Sl.v, aSource, aRow_eq, AH.gNs, rowK]) (by unfold BIG; omega) (by omega)
       simp only [AH.zN] at p3 p4 p6
       have o7 : ∀ b, b < G.size → (st.nl = true ∨ b ≠ st.b) → H7.get b = G.get b := fun b h1 h2 => (p4 b (by omega) h2).trans (AH.gNo (by omega))
       have hstn : ∀ b, (st.nl = false → b ≠ st.b) → st.nl = true ∨ b ≠ st.b := fun b hb => by
        cases ho : st.nl
        ·exact .inr (hb ho)
        ·exact .inl rfl
       have gp7 := (o7 K.p (by omega) (hstn _ fun hn => Ne.symm (ap3.2.1 hn))).trans gp3
       have hAst : st.nl = false → A.size ≠ st.b := fun hn e => (hF1 _ (mem_ftpS.2 (.inr (.inr (.inl ⟨hn, rfl⟩))))).2 e.symm
       have gr7 := (o7 A.size (by omega) (hstn _ hAst)).trans gr3
       obtain ⟨cc, tq, Ft, w1, w2, w3, w4, w5, w6, w7, w8, w9, w10, w11⟩ := q2.target hjl
       rw [e3] at w9
       simp only at w9
       have w2' : K.s2.b < G.size := by have := hV3.base.size; omega
       have w4' := (o7 K.s2.b w2' (hstn _ fun hn e => by have := (hV3.sst.bd hn).1; omega)).trans ((hV3.base.get _ w2).trans w4)
       have w12 : rowK (K.s2.o + j * 2 + 1) 1 (.cells cc 2) = some [tq.v] := by
        unfold rowK
        simp only
        rw [if_pos (by omega)]
        congr 1
        refine List.ext_getElem? fun z => ?_
        rw [List.getElem?_take]
        by_cases hz : z < 1
        ·obtain rfl : z = 0 := by omega
         rw [if_pos hz, List.getElem?_drop, Nat.add_zero, w6]; rfl
        ·rw [if_neg hz, List.getElem?_eq_none (by simp; omega)]
       have w13 : (cc.drop (K.s2.o + j * 2 + 1)).take 1 = [tq.v] := by
        have := w12
        unfold rowK at this
        simp only at this
        rw [if_pos (by omega)] at this
        exact Option.some.inj this
       simp (disch := first | omega | fail) only [amR Tryz.prog ro X, amS, seval, reduceCtorEq, ty3, ty4, ty9, ty22, ty42, ty43, ty45, ty56, ty58, ty79, ty147, ty149, ty154, ty156, ty157, ty159, ty208, f0, f1, f4, f5, f7, f9, gp3, hsl, hl60, p1, gp7, w1, w4', w12]
       rw [w13]
       have p6' : (m2.b = st.b ∧ st.nl = false) ∨ G.size ≤ m2.b := by rcases p6 with h | h; exact .inl h; exact .inr (by omega)
       obtain ⟨v8, x8, y8⟩ := hV3.stack (l := S.stack ++ [n]) (A1 := H7) (st' := m2) (by omega) o7 p2 (fun _ => p6') rfl
       unfold scV at v8 x8
       generalize hH8 : AH.put H7 K.p _ = H8 at v8 x8 ⊢
       have z8 : H8.size = H7.size := by rw [← hH8]; rfl
       have gr8 : H8.get A.size = _ := (by rw [← hH8]; exact AH.gPo (Ne.symm hpA) : H8.get A.size = H7.get A.size).trans gr7
       clear hH8
       obtain ⟨hP, hPl⟩ := pushS_ok hS1 hmd ht hno
       have hIp : InvS K.sp (pushS S n) := ⟨hI1.nodup, hI1.made, hI1.ext, hI1.miss, hI1.uniq, hI1.looks⟩
       have hu := underG_ok hsp (cleanMk_ok (sp := K.sp)) d
       have w := goR_goes hu (underG_goes hsp d) (hsp.prog ht) (startR_ok (hsp.prog ht)) [] hIp hP
       obtain ⟨v1, v2⟩ := goR_ok hu (hsp.prog ht) (startR_ok (hsp.prog ht)) [] hP
       rw [cleanMk_eq] at hU
       have hF8 : ∀ b ∈ ftpS K md1 m2 G1, (b ∈ Fp ∨ A.size ≤ b) ∧ b ≠ A.size := fun b hb => by
        rcases y8 b hb with h | h
        ·exact hF1 b h
        ·exact ⟨.inr (by omega), by omega⟩
       have hX8 : ExtX Fp A H8 := hX3.comp x8 fun b hb => (hF1 b hb).1
       refine (hR d rfl H8 (pushS S n) md1 m2 G1 q tq Ft (by omega) v8 hIp hP (hsp.prog ht) w9 (hRm1.push hP hPl rfl) (by show (S.stack ++ [n]).length + d = 60; rw [List.length_append]; show S.stack.length + 1 + d = 60; omega)).mono ?_
       generalize goR (underG (cleanMk K.sp) K.sp d) K.sp q (startR q) [] (pushS S n) = g2 at hU w v1 v2 ⊢
       obtain ⟨S2, res⟩ := g2
       intro R H9 hRes
       cases res with
       | error e =>
         obtain ⟨r, ch, Fc, u, rfl, rfl, hch, hFc, md9, st9, G9, v9, x9, y9⟩ := hRes
         replace v9 : SpV K H9 S2 md9 st9 G9 r ch true := v9
         have z9 := x9.size
         have gp9 := v9.gp
         unfold scV at gp9
         have hp9 := v9.p1
         have hF9 : ∀ b ∈ ftpS K md9 st9 G9, (b ∈ Fp ∨ A.size ≤ b) ∧ b ≠ A.size := fun b hb => by
          rcases y9 b hb with h | h
          ·exact hF8 b h
          ·exact ⟨.inr (by omega), by omega⟩
         have gr9 := (x9.get A.size (by omega) fun hm => (hF8 _ hm).2 rfl).trans gr8
         have hX9 : ExtX Fp A H9 := hX8.comp x9 fun b hb => (hF8 b hb).1
         simp only at hU
         unfold stopV
         simp (disch := first | omega | fail) only [amR Tryz.prog ro X, amS, seval, reduceCtorEq, ty3, ty4, ty9, ty22, ty42, ty43, ty45, ty56, ty58, ty79, ty147, ty149, ty154, ty156, ty157, ty159, ty208, f0, f1, f4, f5, f7, gp9, gr9]
         generalize hHa : AH.put (H9.new _) H9.size _ = Ha
         have za : Ha.size = H9.size + 1 := by rw [← hHa]; rfl
         have hEa : Ext H9 Ha := by rw [← hHa]; exact (by ((repeat' (first | exact Ext.refl _ | assumption | refine Ext.trans ?_ (Ext.new _ _) | refine Ext.put ?_ ?_ _ | refine Ext.trans ?_ (by assumption))) <;> (first | omega | (simp only [AH.zN, AH.zP] <;> omega))))
         clear hHa
         have hX7 : ExtX [A.size] Ha (Ha.put A.size (.cells [.int .i64 r.1, .string r.2.1, ch.v] 3)) := (ExtX.refl _ _).put (by simp) _
         subst hU
         refine ⟨r, ch, Fc, rfl, rfl, (hch.ext hEa).extx hX7 (fun b hb => by have := hFc b hb; simp only [List.mem_singleton]; omega), fun b hb => by have := hFc b hb; omega, md9, st9, G9, (v9.ext hEa).extx hX7 (fun b hb => ?_), ⟨by simp only [AH.zP]; omega, fun b hb hm => ?_⟩, fun b hb => (hF9 b hb).1⟩
         ·rw [List.mem_singleton.1 hb]
          exact ⟨by omega, fun hm => (hF9 _ hm).2 rfl⟩
         ·exact (AH.gPo (by omega)).trans ((hEa.get b (by omega)).trans (hX9.get b hb hm))
       | ok x =>
         obtain ⟨⟨c, tx⟩, seen⟩ := x
         obtain ⟨sl, Fl, md9, st9, G9, rfl, hsl9, v9, x9, y9, hFl⟩ := hRes
         replace v9 : SpV K H9 S2 md9 st9 G9 x0R .nil false := v9
         have z9 := x9.size
         have gp9 := v9.gp
         unfold scV at gp9
         have hp9 := v9.p1
         have hF9 : ∀ b ∈ ftpS K md9 st9 G9, (b ∈ Fp ∨ A.size ≤ b) ∧ b ≠ A.size := fun b hb => by
          rcases y9 b hb with h | h
          ·exact hF8 b h
          ·exact ⟨.inr (by omega), by omega⟩
         have gr9 := (x9.get A.size (by omega) fun hm => (hF8 _ hm).2 rfl).trans gr8
         have hX9 : ExtX Fp A H9 := hX8.comp x9 fun b hb => (hF8 b hb).1
         simp only at hU
         simp only [madeV]
         simp (disch := first | omega | fail) only [amR Tryz.prog ro X, amS, seval, reduceCtorEq, ty3, ty4, ty9, ty22, ty42, ty43, ty45, ty56, ty58, ty79, ty147, ty149, ty154, ty156, ty157, ty159, ty208, f0, f1, f4, f5, f7, gp9, gr9]
         generalize hHa : AH.put (H9.new _) H9.size _ = Ha
         have za : Ha.size = H9.size + 1 := by rw [← hHa]; rfl
         have hEa : Ext H9 Ha := by rw [← hHa]; exact (by ((repeat' (first | exact Ext.refl _ | assumption | refine Ext.trans ?_ (Ext.new _ _) | refine Ext.put ?_ ?_ _ | refine Ext.trans ?_ (by assumption))) <;> (first | omega | (simp only [AH.zN, AH.zP] <;> omega))))
         have g10 : Ha.get H9.size = .cells [.int .i64 c, .string tx, Sl.nil.v] 3 := by rw [← hHa]; exact AH.gPs _ _ _
         clear hHa
         have vA := v9.ext hEa
         have gpA := vA.gp
         unfold scV at gpA
         obtain ⟨hst2, hrok⟩ := v2 (c, tx) seen rfl
         have hst2' : S2.stack = S.stack ++ [n] := hst2
         have hl2' : S2.stack.length = S.stack.length + 1 := by rw [hst2']; simp
         have hml : st9.len = S.stack.length + 1 := vA.sst.len.trans hl2'
         obtain ⟨m4, u1, u2, u3, u4⟩ := vA.sst.upto (P := Tryz.prog) (t := 22) (by simp only [ty22]) (i := S.stack.length) (by omega)
         have e1' : ((S.stack.length + 1 : Nat) : Int) - 1 = (S.stack.length : Int) := by omega
         refine Wp.runG [] (by kernel_rfl) (.inl (by kernel_rfl)) ?_
         simp (disch := first | omega | fail) only [amR Tryz.prog ro X, amS, seval, reduceCtorEq, ty3, ty4, ty9, ty22, ty42, ty43, ty45, ty56, ty58, ty79, ty147, ty149, ty154, ty156, ty157, ty159, ty208, f0, f1, f4, f5, f7, gpA, hml, e1', u1]
         have gpA' := gpA
         obtain ⟨vB, xB, yB⟩ := vA.stack (l := S2.stack.take S.stack.length) (A1 := Ha) (st' := m4) (Nat.le_refl _) (fun b hb hn => rfl) u2 (fun hn => .inl ⟨u4, u3 ▸ hn⟩) rfl
         unfold scV at vB xB
         generalize hHb : AH.put Ha K.p _ = Hb at vB xB ⊢
         have zb : Hb.size = Ha.size := by rw [← hHb]; rfl
         have hpa : K.p < Ha.size := by omega
         have hp9' : K.p ≠ H9.size := by omega
         have gB : Hb.get H9.size = _ := (by rw [← hHb]; exact AH.gPo (Ne.symm hp9') : Hb.get H9.size = Ha.get H9.size).trans g10
         have grB : Hb.get A.size = _ := (by rw [← hHb]; exact AH.gPo (Ne.symm hpA) : Hb.get A.size = Ha.get A.size).trans ((hEa.get A.size (by omega)).trans gr9)
         have oB : ∀ b, b ≠ K.p → Hb.get b = Ha.get b := fun b hb => by rw [← hHb]; exact AH.gPo hb
         clear hHb
         have gpB := vB.gp
         unfold scV at gpB
         have hk2 := idxL_pre w.pre hk
         have hn2 : n ∈ S2.stack := by rw [hst2']; simp
         have hmd2 : lookL n S2.made = none := stack_unmade v1.ok hn2
         have hak2 := (idxL_some hk2).1
         have hkn2 : S2.asked[k] = n := by obtain ⟨w1, w2⟩ := List.getElem?_eq_some_iff.1 (idxL_some hk2).2.1; exact w2
         obtain ⟨c1, c2, s2, y, m1, m2', m3, m4', m5, m6, m7, m8, m9, m10, hs2, hfill⟩ := vB.row (k := k) (by rw [rowsOf_len]; exact hak2)
         have hyn : y.1 = n := by rw [m7, rowsOf_get, rowOf_name]; exact hkn2
         obtain ⟨cs, hcs⟩ : ∃ cs, cs = c1 ++ ([.string y.1, .int .i64 y.2.1.1, .string y.2.1.2.1, Sl.nil.v, Sl.v s2, .bool y.2.2.2] ++ c2) := ⟨_, rfl⟩
         rw [← hcs] at m8
         have hcl : k * 6 + 6 ≤ cs.length := by rw [hcs]; simp only [List.length_append, List.length_cons, List.length_nil]; omega
         have hcl2 : ∀ o vs, (setCells cs o vs).length = cs.length := fun o vs => setCells_length _ _ _
         have hmb := v9.bound _ (mem_ftpS.2 (.inr (.inl ⟨m1, rfl⟩)))
         have hmr : md9.b ≠ A.size := fun e => (hF9 _ (mem_ftpS.2 (.inr (.inl ⟨m1, rfl⟩)))).2 e
         have hm9 : md9.b ≠ H9.size := by omega
         refine Wp.runG [] (by kernel_rfl) (.inl (by kernel_rfl)) ?_
         simp (disch := first | omega | fail) only [amR Tryz.prog ro X, amS, seval, reduceCtorEq, ty3, ty4, ty9, ty22, ty42, ty43, ty45, ty56, ty58, ty79, ty147, ty149, ty154, ty156, ty157, ty159, ty208, f0, f1, f4, f5, f7, gpB, gB, grB, m1, m8, hcl2]
         have hrow : y = (n, (0, ⟨#[]⟩, .mk), [], false) := by
          rw [m7, rowsOf_get]
          unfold rowOf
          rw [hkn2, hmd2]
         have hcell : setCells (setCells (setCells cs (md9.o + k * 6 + 1) [.int .i64 c, .string tx, Sl.nil.v]) (md9.o + k * 6 + 4) [sl.v]) (md9.o + k * 6 + 5) [.bool true] = c1 ++ ([.string y.1, .int .i64 c, .string tx, Sl.nil.v, Sl.v sl, .bool true] ++ c2) := by
          rw [hcs, m2', Nat.zero_add, setCells_mid _ c1 _ _ 1 m9 (by simp), setCells_mid _ c1 _ _ 4 m9 (by simp [setCells]), setCells_mid _ c1 _ _ 5 m9 (by simp [setCells])]
          rfl
         generalize hHx : AH.put (AH.put (AH.put Hb md9.b _) md9.b _) md9.b _ = Hx
         have zx : Hx.size = Hb.size := by rw [← hHx]; rfl
         have hx1 : Hx.get md9.b = .cells (c1 ++ ([.string y.1, .int .i64 c, .string tx, Sl.nil.v, Sl.v sl, .bool true] ++ c2)) 6 := by
          rw [← hHx, AH.gPs]
          exact congrArg (fun l => AObj.cells l 6) hcell
         have hx2 : ∀ b, b ≠ md9.b → Hx.get b = Hb.get b := fun b hb => by rw [← hHx]; exact (AH.gPo hb).trans ((AH.gPo hb).trans (AH.gPo hb))
         clear hHx
         have hFlb : ∀ b ∈ Fl, b < H9.size ∧ b ≠ md9.b ∧ b ≠ K.p := fun b hb => by
          obtain ⟨_, w2, _⟩ := hFl b hb
          exact ⟨hsl9.bound b hb, fun e => w2 (mem_ftpS.2 (.inr (.inl ⟨m1, e⟩))), fun e => w2 (mem_ftpS.2 (.inl e))⟩
         have oxl : ∀ b ∈ Fl, Hx.get b = H9.get b := fun b hb => by
          obtain ⟨w1, w2, w3⟩ := hFlb b hb
          exact (hx2 b w2).trans ((oB b w3).trans (hEa.get b w1))
         have hS' : madeS (popS ⟨S2.asked, S2.made, S2.stack, S2.ext ++ [(n, seen)]⟩) n (c, tx) = ⟨S2.asked, S2.made ++ [(n, (c, tx))], S2.stack.take S.stack.length, S2.ext ++ [(n, seen)]⟩ := by
          unfold popS madeS
          simp only [hl2', Nat.add_sub_cancel]
         obtain ⟨G', v', x', y'⟩ := hfill Hx ⟨S2.asked, S2.made ++ [(n, (c, tx))], S2.stack.take S.stack.length, S2.ext ++ [(n, seen)]⟩ (c, tx) seen sl Fl (by have := hrok.2.2; show tx.size < BIG; unfold BIG; simp only at this; omega) hx1 (by omega) (fun b hb hn => hx2 b hn) (hsl9.frame fun b hb => ⟨oxl b hb, by have := hFlb b hb; omega⟩)
          (fun b hb => by
            obtain ⟨w1, w2, cc', w3⟩ := hFl b hb
            exact ⟨by omega, (hFlb b hb).2.1, cc', (oxl b hb).trans w3⟩) (by rw [hrow]; exact rowsOf_madeX w.inv hk2 hmd2) rfl
         subst hU
         have hX5 : ExtX [A.size] Hx (Hx.put A.size (.cells [.int .i64 c, .string tx, Sl.nil.v] 3)) := (ExtX.refl _ _).put (by simp) _
         have hFB : ∀ b ∈ ftpS K md9 m4 G9, (b ∈ Fp ∨ A.size ≤ b) ∧ b ≠ A.size := fun b hb => by
          rcases yB b hb with h | h
          ·exact hF9 b h
          ·exact ⟨.inr (by omega), by omega⟩
         have hG' : ∀ b ∈ ftpS K md9 m4 G', (b ∈ Fp ∨ A.size ≤ b) ∧ b ≠ A.size := fun b hb => by
          rcases mem_ftpS.1 hb with e | e | e | e
          ·exact hFB b (mem_ftpS.2 (.inl e))
          ·exact hFB b (mem_ftpS.2 (.inr (.inl e)))
          ·exact hFB b (mem_ftpS.2 (.inr (.inr (.inl e))))
          ·rcases y' b e with e | e
           ·exact hFB b (mem_ftpS.2 (.inr (.inr (.inr e))))
           ·have := (hFl b e).1
            exact ⟨.inr (by omega), by omega⟩
         rw [hS']
         have hmF9 := hF9 md9.b (mem_ftpS.2 (.inr (.inl ⟨m1, rfl⟩)))
         have hpF9 := hF9 K.p (mem_ftpS.2 (.inl rfl))
         refine ⟨rfl, md9, m4, G', v'.extx hX5 (fun b hb => ?_), ⟨by simp only [AH.zP]; omega, fun b hb hm => ?_⟩, fun b hb => (hG' b hb).1⟩
         ·rw [List.mem_singleton.1 hb]
          exact ⟨by omega, fun hm => (hG' _ hm).2 rfl⟩
         ·refine (AH.gPo (by omega)).trans ((hx2 b fun e => ?_).trans ((oB b fun e => ?_).trans ((hEa.get b (by omega)).trans (hX9.get b hb hm))))
          ·rcases hmF9.1 with h | h
           ·exact hm (e ▸ h)
           ·omega
          ·rcases hpF9.1 with h | h
           ·exact hm (e ▸ h)
           ·omega
 | none =>
   have k0 : ¬ (0 : Int) ≤ -1 := by decide
   have k1 : (-1 : Int) < 0 := by decide
   obtain ⟨md1, H0, hap, hacc, hg0, hz0, hu0⟩ := hVH.smd.lit (P := Tryz.prog) (ro := ro) (t := 154) (n := 1) (vs := [.string n, .int .i64 0, .string ByteArray.empty, Sl.nil.v, Sl.nil.v, .bool false]) (xs := [(n, (0, ⟨#[]⟩, .mk), [], false)]) (Gx := []) hB (by simp only [ty154]; rfl) rfl (Reps.one (rep_MRow.2 ⟨Sl.nil, rfl, by show n.size < BIG; unfold BIG; omega, by show 0 < BIG; unfold BIG; omega, .nil rfl rfl rfl⟩)) (.inr (by simp)) (by rw [rowsOf_len]; omega) (by omega)
   rw [show Dat.w MRow = 6 from rfl] at hap
   simp only [List.append_nil] at hacc
   have gp0 : H0.get K.p = H.get K.p := by
    have ha := hVH.apart
    refine hg0.get _ (by omega) ?_
    cases hmn : md.nl
    ·exact .inr (Ne.symm (ha.1 hmn))
    ·by_cases e : K.p = md.b
     ·have := ha.2.2.2.2 hmn; have := hV.pos; omega
     ·exact .inr e
   have gp0' := gp0.trans gp
   have hin0 : md.nl = false → md.b ≠ A.size := fun hmn e => hin (mem_ftpS.2 (.inr (.inl ⟨hmn, e.symm⟩)))
   have gr0 : H0.get A.size = H.get A.size := by
    have ha := hVH.apart
    refine hg0.get _ (by omega) ?_
    cases hmn : md.nl
    ·exact .inr (Ne.symm (hin0 hmn))
    ·by_cases e : A.size = md.b
     ·have := ha.2.2.2.2 hmn; have := hV.pos; omega
     ·exact .inr e
   have hml : md.len = S0.asked.length := hVH.smd.len.trans (rowsOf_len S0)
   simp (disch := first | omega | fail) only [amR Tryz.prog ro X, amS, seval, reduceCtorEq, ty3, ty4, ty9, ty22, ty42, ty43, ty45, ty56, ty58, ty79, ty147, ty149, ty154, ty156, ty157, ty159, ty208, gp, gp0', gr, k0, k1, hap]
   generalize hHp : AH.put H0 K.p _ = H1
   obtain ⟨hV1, hX1', hF1'⟩ := hVH.ask hI hi (by omega) hacc hg0 (by rcases hu0 with h | ⟨h, h'⟩; exact .inl h; exact .inr ⟨by omega, h'⟩) rfl
   unfold scV at hV1 hX1'
   rw [hHp] at hV1 hX1'
   have z1 : A.size < H1.size := by rw [← hHp]; simp only [AH.zP]; omega
   have hpA : K.p ≠ A.size := by omega
   have gr1 : H1.get A.size = .cells [.int .i64 0, .string ByteArray.empty, Sl.nil.v] 3 := by rw [← hHp]; exact (AH.gPo (Ne.symm hpA)).trans (gr0.trans gr)
   clear hHp
   have hX1 : ExtX (ftpS K md st G) A H1 := ⟨by have := hX1'.size; omega, fun b hb hm => (hX1'.get b (by omega) hm).trans (hEH.get b hb)⟩
   have hF1 : ∀ b ∈ ftpS K md1 st G, (b ∈ ftpS K md st G ∨ A.size ≤ b) ∧ b ≠ A.size := fun b hb => by
    rcases hF1' b hb with h | h
    ·exact ⟨.inl h, fun e => hin (e ▸ h)⟩
    ·exact ⟨.inr (by omega), by omega⟩
   have hgo := askS_inv hI n
   have hI1 := hgo.inv
   have hS1 := askS_ok hS n
   have hRm1 := askS_room hRm n
   have hst1 := askS_stack S0 n
   have hlen1 : (askS S0 n).asked = S0.asked ++ [n] := by unfold askS; rw [hi]; rfl
   have hk : idxL n (askS S0 n).asked = some S0.asked.length := by rw [hlen1]; exact idxL_snoc hi
   have hmd : lookL n (askS S0 n).made = none := by
    rw [askS_made]
    cases hq : lookL n S0.made with
    | none => rfl
    | some r => exact (idxL_none hi (hI.made n r hq)).elim
   rw [hmd] at hU
   simp only at hU
   rw [hml]
   generalize ftpS K md st G = Fp at *
   generalize askS S0 n = S at *
   generalize S0.asked.length = k at *
   generalize hGG : G = G1 at *
   clear hV hVH gp gr hftp hi hI hS hRm gp0 gp0' gr0 hacc hap hg0 hlen1 hgo
   obtain ⟨F1, q1⟩ := hV1.src
   obtain ⟨F2, q2⟩ := hV1.tgt
   refine (Smk.l3Source_a H1 (by omega) K.s1 K.s2 K.sp F1 (q1.ext hV1.base) n (by omega)).mono ?_
   rintro R H2 ⟨rfl, hE2⟩
   have z2 := hE2.size
   have hV2 := hV1.ext hE2
   have gp2 := hV2.gp
   unfold scV at gp2
   have gr2 := (hE2.get A.size (by omega)).trans gr1
   simp (disch := first | omega | fail) only [amR Tryz.prog ro X, amS, seval, reduceCtorEq, ty3, ty4, ty9, ty22, ty42, ty43, ty45, ty56, ty58, ty79, ty147, ty149, ty154, ty156, ty157, ty159, ty208, gp2]
   refine (Space.l3Target_a H2 (by omega) K.s1 K.s2 K.sp F2 (q2.ext hV2.base) n (by omega)).mono ?_
   rintro R H3 ⟨rfl, hE3⟩
   have z3 := hE3.size
   have hE13 := hE2.trans hE3
   have hV3 := hV2.ext hE3
   have gp3 := hV3.gp
   unfold scV at gp3
   have gr3 := (hE3.get A.size (by omega)).trans gr2
   have hak := (idxL_some hk).1
   have hkn : S.asked[k] = n := by obtain ⟨w1, w2⟩ := List.getElem?_eq_some_iff.1 (idxL_some hk).2.1; exact w2
   have hX3 : ExtX Fp A H3 := hX1.trans (hE13.x _)
   have bd1 := hV1.bound
   have ap1 := hV1.apart
   cases ht : tgtR K.sp n with
   | none =>
     have e2 : placeOf n K.sp.2 = -1 := placeOf_no ht
     have n1' : (-1 : Int) < 0 := by decide
     have n0' : ¬ (0 : Int) ≤ -1 := by decide
     rw [ht] at hU
     cases hs : srcR K.sp n with
     | some t =>
       rw [hs] at hU
       simp only at hU
       obtain ⟨i, hil, e1, e3⟩ := placeOf_at hs
       have i0 : (0 : Int) ≤ (i : Int) := by omega
       obtain ⟨cc, w1, w2, w3, w4, w5, w6, _, _, w7⟩ := (q1.ext hV3.base).source hil
       rw [e3] at w6 w7
       simp only at w6 w7
       simp (disch := first | omega | fail) only [amR Tryz.prog ro X, amS, seval, reduceCtorEq, ty3, ty4, ty9, ty22, ty42, ty43, ty45, ty56, ty58, ty79, ty147, ty149, ty154, ty156, ty157, ty159, ty208, gp3, gr3, e1, e2, n1', i0, w1, w4, w6]
       generalize hH4 : AH.put (AH.put (H3.new _) H3.size _) H3.size _ = H4
       have z4 : H4.size = H3.size + 1 := by rw [← hH4]; rfl
       have hE4 : Ext H3 H4 := by rw [← hH4]; exact (by ((repeat' (first | exact Ext.refl _ | assumption | refine Ext.trans ?_ (Ext.new _ _) | refine Ext.put ?_ ?_ _ | refine Ext.trans ?_ (by assumption))) <;> (first | omega | (simp only [AH.zN, AH.zP] <;> omega))))
       have g8 : H4.get H3.size = .cells [.int .i64 0, .string t, Sl.nil.v] 3 := by rw [← hH4]; exact AH.gPs _ _ _
       clear hH4
       have hV4 := hV3.ext hE4
       have gp4 := hV4.gp
       unfold scV at gp4
       have gr4 := (hE4.get A.size (by omega)).trans gr3
       obtain ⟨c1, c2, s2, y, m1, m2, m3, m4, m5, m6, m7, m8, m9, m10, hs2, hfill⟩ := hV4.row (k := k) (by rw [rowsOf_len]; exact hak)
       have hyn : y.1 = n := by rw [m7, rowsOf_get, rowOf_name]; exact hkn
       obtain ⟨cs, hcs⟩ : ∃ cs, cs = c1 ++ ([.string y.1, .int .i64 y.2.1.1, .string y.2.1.2.1, Sl.nil.v, Sl.v s2, .bool y.2.2.2] ++ c2) := ⟨_, rfl⟩
       rw [← hcs] at m8
       have hcl : k * 6 + 6 ≤ cs.length := by rw [hcs]; simp only [List.length_append, List.length_cons, List.length_nil]; omega
       have hcl2 : ∀ o vs, (setCells cs o vs).length = cs.length := fun o vs => setCells_length _ _ _
       have hmb := bd1 _ (mem_ftpS.2 (.inr (.inl ⟨m1, rfl⟩)))
       have hmr : md1.b ≠ A.size := fun e => (hF1 _ (mem_ftpS.2 (.inr (.inl ⟨m1, rfl⟩)))).2 e
       refine Wp.runG [] (by kernel_rfl) (.inl (by kernel_rfl)) ?_
       simp (disch := first | omega | fail) only [amR Tryz.prog ro X, amS, seval, reduceCtorEq, ty3, ty4, ty9, ty22, ty42, ty43, ty45, ty56, ty58, ty79, ty147, ty149, ty154, ty156, ty157, ty159, ty208, gp4, gr4, g8, m1, m8, hcl2]
       obtain ⟨F2', k1, k2⟩ := hs2
       have hrow : y = (n, (0, ⟨#[]⟩, .mk), [], false) := by
        rw [m7, rowsOf_get]
        unfold rowOf
        rw [hkn, hmd]
       have hcell : setCells (setCells cs (md1.o + k * 6 + 1) [.int .i64 0, .string t, Sl.nil.v]) (md1.o + k * 6 + 5) [.bool true] = c1 ++ ([.string y.1, .int .i64 0, .string t, Sl.nil.v, Sl.v s2, .bool true] ++ c2) := by
        rw [hcs, m2, Nat.zero_add, setCells_mid _ c1 _ _ 1 m9 (by simp), setCells_mid _ c1 _ _ 5 m9 (by simp [setCells])]
        rfl
       generalize hHx : AH.put (AH.put H4 md1.b _) md1.b _ = Hx
       have zx : Hx.size = H4.size := by rw [← hHx]; rfl
       have hx1 : Hx.get md1.b = .cells (c1 ++ ([.string y.1, .int .i64 0, .string t, Sl.nil.v, Sl.v s2, .bool true] ++ c2)) 6 := by
        rw [← hHx, AH.gPs]
        exact congrArg (fun l => AObj.cells l 6) hcell
       have hx2 : ∀ b, b ≠ md1.b → Hx.get b = H4.get b := fun b hb => by rw [← hHx]; exact (AH.gPo hb).trans (AH.gPo hb)
       clear hHx
       have ap4 := hV4.apart
       have hF2b : ∀ b ∈ F2', b ≠ md1.b ∧ b < H4.size := fun b hb => ⟨(ap4.2.2.2.1 b (k2 b hb)).2.1 m1, hV4.smd.bound b (k2 b hb)⟩
       obtain ⟨G', v', x', y'⟩ := hfill Hx (madeS S n (0, t)) (0, t) y.2.2.1 s2 F2' (by show t.size < BIG; unfold BIG; omega) hx1 (by omega) (fun b hb hn => hx2 b hn) (k1.frame fun b hb => ⟨hx2 b (hF2b b hb).1, by have := hF2b b hb; omega⟩)
        (fun b hb => by
          obtain ⟨w1, w2, w3⟩ := hV4.g3 b (k2 b hb)
          exact ⟨w1, (hF2b b hb).1, w2, (hx2 b (hF2b b hb).1).trans w3⟩) (by rw [hrow]; exact rowsOf_madeS hI1 hk hmd) rfl
       subst hU
       have hX5 : ExtX [A.size] Hx (Hx.put A.size (.cells [.int .i64 0, .string t, Sl.nil.v] 3)) := (ExtX.refl _ _).put (by simp) _
       have hG' : ∀ b ∈ ftpS K md1 st G', b ∈ ftpS K md1 st G1 := fun b hb => by
        rcases mem_ftpS.1 hb with e | e | e | e
        ·exact mem_ftpS.2 (.inl e)
        ·exact mem_ftpS.2 (.inr (.inl e))
        ·exact mem_ftpS.2 (.inr (.inr (.inl e)))
        ·rcases y' b e with e | e
         ·exact mem_ftpS.2 (.inr (.inr (.inr e)))
         ·exact mem_ftpS.2 (.inr (.inr (.inr (k2 b e))))
       have hmF := hF1 md1.b (mem_ftpS.2 (.inr (.inl ⟨m1, rfl⟩)))
       refine ⟨rfl, md1, st, G', v'.extx hX5 (fun b hb => ?_), ⟨by simp only [AH.zP]; omega, fun b hb hm => ?_⟩, fun b hb => (hF1 b (hG' b hb)).1⟩
       ·rw [List.mem_singleton.1 hb]
        exact ⟨by omega, fun hm => (hF1 _ (hG' _ hm)).2 rfl⟩
       ·refine (AH.gPo (by omega)).trans ((hx2 b fun e => ?_).trans ((hE4.get b (by omega)).trans (hX3.get b hb hm)))
        rcases hmF.1 with h | h
        ·exact hm (e ▸ h)
        ·omega
     | none =>
       rw [hs] at hU
       simp only at hU
       have e1 : placeOf n K.sp.1 = -1 := placeOf_no hs
       simp (disch := first | omega | fail) only [amR Tryz.prog ro X, amS, seval, reduceCtorEq, ty3, ty4, ty9, ty22, ty42, ty43, ty45, ty56, ty58, ty79, ty147, ty149, ty154, ty156, ty157, ty159, ty208, gp3, gr3, e1, e2, n1', n0']
       generalize hH4 : AH.put (H3.new _) H3.size _ = H4
       have z4 : H4.size = H3.size + 1 := by rw [← hH4]; rfl
       have hE4 : Ext H3 H4 := by rw [← hH4]; exact (by ((repeat' (first | exact Ext.refl _ | assumption | refine Ext.trans ?_ (Ext.new _ _) | refine Ext.put ?_ ?_ _ | refine Ext.trans ?_ (by assumption))) <;> (first | omega | (simp only [AH.zN, AH.zP] <;> omega))))
       have g8 : H4.get H3.size = .cells [.int .i64 4, .string n, Sl.nil.v] 3 := by rw [← hH4]; exact AH.gPs _ _ _
       clear hH4
       have hV4 := hV3.ext hE4
       have gp4 := hV4.gp
       unfold scV at gp4
       have gr4 := (hE4.get A.size (by omega)).trans gr3
       obtain ⟨c1, c2, s2, y, m1, m2, m3, m4, m5, m6, m7, m8, m9, m10, hs2, hfill⟩ := hV4.row (k := k) (by rw [rowsOf_len]; exact hak)
       have hyn : y.1 = n := by rw [m7, rowsOf_get, rowOf_name]; exact hkn
       obtain ⟨cs, hcs⟩ : ∃ cs, cs = c1 ++ ([.string y.1, .int .i64 y.2.1.1, .string y.2.1.2.1, Sl.nil.v, Sl.v s2, .bool y.2.2.2] ++ c2) := ⟨_, rfl⟩
       rw [← hcs] at m8
       have hcl : k * 6 + 6 ≤ cs.length := by rw [hcs]; simp only [List.length_append, List.length_cons, List.length_nil]; omega
       have hcl2 : ∀ o vs, (setCells cs o vs).length = cs.length := fun o vs => setCells_length _ _ _
       have hmb := bd1 _ (mem_ftpS.2 (.inr (.inl ⟨m1, rfl⟩)))
       have hmr : md1.b ≠ A.size := fun e => (hF1 _ (mem_ftpS.2 (.inr (.inl ⟨m1, rfl⟩)))).2 e
       refine Wp.runG [] (by kernel_rfl) (.inl (by kernel_rfl)) ?_
       simp (disch := first | omega | fail) only [amR Tryz.prog ro X, amS, seval, reduceCtorEq, ty3, ty4, ty9, ty22, ty42, ty43, ty45, ty56, ty58, ty79, ty147, ty149, ty154, ty156, ty157, ty159, ty208, gp4, gr4, g8, m1, m8, hcl2]
       obtain ⟨F2', k1, k2⟩ := hs2
       have hrow : y = (n, (0, ⟨#[]⟩, .mk), [], false) := by
        rw [m7, rowsOf_get]
        unfold rowOf
        rw [hkn, hmd]
       have hcell : setCells (setCells cs (md1.o + k * 6 + 1) [.int .i64 4, .string n, Sl.nil.v]) (md1.o + k * 6 + 5) [.bool true] = c1 ++ ([.string y.1, .int .i64 4, .string n, Sl.nil.v, Sl.v s2, .bool true] ++ c2) := by
        rw [hcs, m2, Nat.zero_add, setCells_mid _ c1 _ _ 1 m9 (by simp), setCells_mid _ c1 _ _ 5 m9 (by simp [setCells])]
        rfl
       generalize hHx : AH.put (AH.put H4 md1.b _) md1.b _ = Hx
       have zx : Hx.size = H4.size := by rw [← hHx]; rfl
       have hx1 : Hx.get md1.b = .cells (c1 ++ ([.string y.1, .int .i64 4, .string n, Sl.nil.v, Sl.v s2, .bool true] ++ c2)) 6 := by
        rw [← hHx, AH.gPs]
        exact congrArg (fun l => AObj.cells l 6) hcell
       have hx2 : ∀ b, b ≠ md1.b → Hx.get b = H4.get b := fun b hb => by rw [← hHx]; exact (AH.gPo hb).trans (AH.gPo hb)
       clear hHx
       have ap4 := hV4.apart
       have hF2b : ∀ b ∈ F2', b ≠ md1.b ∧ b < H4.size := fun b hb => ⟨(ap4.2.2.2.1 b (k2 b hb)).2.1 m1, hV4.smd.bound b (k2 b hb)⟩
       obtain ⟨G', v', x', y'⟩ := hfill Hx (madeS S n (4, n)) (4, n) y.2.2.1 s2 F2' (by show n.size < BIG; unfold BIG; omega) hx1 (by omega) (fun b hb hn => hx2 b hn) (k1.frame fun b hb => ⟨hx2 b (hF2b b hb).1, by have := hF2b b hb; omega⟩)
        (fun b hb => by
          obtain ⟨w1, w2, w3⟩ := hV4.g3 b (k2 b hb)
          exact ⟨w1, (hF2b b hb).1, w2, (hx2 b (hF2b b hb).1).trans w3⟩) (by rw [hrow]; exact rowsOf_madeS hI1 hk hmd) rfl
       subst hU
       have hX5 : ExtX [A.size] Hx (Hx.put A.size (.cells [.int .i64 4, .string n, Sl.nil.v] 3)) := (ExtX.refl _ _).put (by simp) _
       have hG' : ∀ b ∈ ftpS K md1 st G', b ∈ ftpS K md1 st G1 := fun b hb => by
        rcases mem_ftpS.1 hb with e | e | e | e
        ·exact mem_ftpS.2 (.inl e)
        ·exact mem_ftpS.2 (.inr (.inl e))
        ·exact mem_ftpS.2 (.inr (.inr (.inl e)))
        ·rcases y' b e with e | e
         ·exact mem_ftpS.2 (.inr (.inr (.inr e)))
         ·exact mem_ftpS.2 (.inr (.inr (.inr (k2 b e))))
       have hmF := hF1 md1.b (mem_ftpS.2 (.inr (.inl ⟨m1, rfl⟩)))
       refine ⟨rfl, md1, st, G', v'.extx hX5 (fun b hb => ?_), ⟨by simp only [AH.zP]; omega, fun b hb hm => ?_⟩, fun b hb => (hF1 b (hG' b hb)).1⟩
       ·rw [List.mem_singleton.1 hb]
        exact ⟨by omega, fun hm => (hF1 _ (hG' _ hm)).2 rfl⟩
       ·refine (AH.gPo (by omega)).trans ((hx2 b fun e => ?_).trans ((hE4.get b (by omega)).trans (hX3.get b hb hm)))
        rcases hmF.1 with h | h
        ·exact hm (e ▸ h)
        ·omega
   | some q =>
     have hs : srcR K.sp n = none := by
      cases hs : srcR K.sp n with
      | none => rfl
      | some t => have := hsp.apart n t hs; rw [ht] at this; cases this
     rw [hs, ht] at hU
     simp only at hU
     obtain ⟨j, hjl, e2, e3⟩ := placeOf_at ht
     have j1 : ¬ (j : Int) < 0 := by omega
     have hsl := hV3.sst.len
     obtain ⟨Fs, hss, hFs⟩ := hV3.sst.slr
     have h60 : S.stack.length + d = 60 := by rw [hst1]; exact hd
     have ap3 := hV3.apart
     have hmF : ∀ b ∈ ftpS K md1 st G1, b < H3.size := fun b hb => by have := (bd1 b hb).2; omega
     simp (disch := first | omega | fail) only [amR Tryz.prog ro X, amS, seval, reduceCtorEq, ty3, ty4, ty9, ty22, ty42, ty43, ty45, ty56, ty58, ty79, ty147, ty149, ty154, ty156, ty157, ty159, ty208, gp3, gr3, e2, j1]
     refine Wp.loopC (fun r f G => G = H3 ∧ f 0 = .pointer (some ⟨K.p, 0, none⟩) ∧ f 1 = .string n ∧ f 4 = .pointer (some ⟨A.size, 0, none⟩) ∧ f 5 = .int .i64 k ∧ f 7 = .int .i64 j ∧ ∃ i : Nat, i ≤ S.stack.length ∧ r = S.stack.length - i ∧ f 9 = .int .i64 i ∧ idxL n (S.stack.take i) = none) (S.stack.length - 0) ?_ ?_
     ·simp (disch := first | omega | fail) only [amV, amH, amQ, amL, amN Tryz.prog, amS, seval, reduceCtorEq, ty3, ty4, ty9, ty22, ty42, ty43, ty45, ty56, ty58, ty79, ty147, ty149, ty154, ty156, ty157, ty159, ty208]
      exact ⟨0, by omega, rfl, rfl, rfl⟩
     rintro r f G ⟨rfl, f0, f1, f4, f5, f7, i, hi', rfl, f9, hno⟩
     have hpA : K.p ≠ A.size := fun e => (hF1 _ (mem_ftpS.2 (.inl rfl))).2 e
     have hp3 := hV3.p1
     have hp0' := hV3.p0
     simp (disch := first | omega | fail) only [amR Tryz.prog ro X, amS, seval, reduceCtorEq, ty3, ty4, ty9, ty22, ty42, ty43, ty45, ty56, ty58, ty79, ty147, ty149, ty154, ty156, ty157, ty159, ty208, f0, f1, f4, f5, f7, f9, gp3, hsl]
     refine CondB.split (fun h => ?_) (fun h => ?_)
     ·have hil : i < S.stack.length := by simpa using h
      obtain ⟨n1, b1', m1', i1, c1, q1'⟩ := hss.str hil
      rw [aCell_eq] at c1
      by_cases hx : S.stack[i] = n
      ·rw [idxL_here hil hno hx] at hU
       simp only at hU
       obtain ⟨Ha, hHa⟩ : ∃ Ha, Ha = G.put K.p (.cells [K.s1.v, K.s2.v, md1.v, st.v, .int .i64 x0R.1, .string x0R.2.1, Sl.nil.v, .bool true] 8) := ⟨_, rfl⟩
       have za : Ha.size = G.size := by rw [hHa]; rfl
       have oa : ∀ b, b ≠ K.p → Ha.get b = G.get b := fun b hb => by rw [hHa]; exact AH.gPo hb
       have hssA : SlR Ha st S.stack Fs := hss.frame fun b hb => by
        obtain ⟨w1, w2, w3, w4⟩ := hFs b hb
        exact ⟨oa b (by rw [w1]; exact ap3.2.1 w4), by omega⟩
       obtain ⟨sf, Ff, w1, w2, w3⟩ := (hssA.ext (Ext.new Ha (.cells [] 1))).from (P := Tryz.prog) (t := 22) (by simp only [ty22]; rfl) (i := i) hi'
       have w4 : SlR Ha sf (S.stack.drop i) Ff := w2.frame fun b hb => by
        have := hssA.bound b (w3 b hb)
        exact ⟨(AH.gNo (by omega)).symm, this⟩
       obtain ⟨t1, H5, hap, hacc, hE5⟩ := w4.copied (P := Tryz.prog) (ro := ro) (t := 22) (fun h => h.nofoot nofoot_Str) (by simp only [ty22]; rfl) (by omega) (by rw [List.length_drop]; omega)
       rw [show Dat.w ByteArray = 1 from rfl] at hap
       have z5 := hE5.size
       have gpa : Ha.get K.p = .cells [K.s1.v, K.s2.v, md1.v, st.v, .int .i64 x0R.1, .string x0R.2.1, Sl.nil.v, .bool true] 8 := by rw [hHa]; exact AH.gPs _ _ _
       have gp5 := (hE5.get K.p (by omega)).trans gpa
       have gr5 := (hE5.get A.size (by omega)).trans ((oa _ (Ne.symm hpA)).trans gr3)
       rw [hHa] at w1 hap
       simp only [AH.zP] at hap
       simp (maxSteps := 2000000) (disch := first | omega | (simp only [AH.zN, AH.zP] <;> omega) | fail) only [amR Tryz.prog ro X, amS, seval, reduceCtorEq, ty3, ty4, ty9, ty22, ty42, ty43, ty45, ty56, ty58, ty79, ty147, ty149, ty154, ty156, ty157, ty159, ty208, f0, f1, f4, f5, f7, f9, n1, c1, hx, gp3, w1, hap, gp5, gr5]
       obtain ⟨Fa, ha1, ha2⟩ := hacc.fresh (Fresh.nil _ _)
       generalize hH6 : AH.put H5 K.p _ = H6
       have z6 : H6.size = H5.size := by rw [← hH6]; rfl
       have gp6 : H6.get K.p = .cells (scV K md1 st (6, ⟨#[]⟩, S.stack.drop i) t1 true) 8 := by rw [← hH6]; exact AH.gPs _ _ _
       have o6 : ∀ b, b ≠ K.p → H6.get b = H5.get b := fun b hb => by rw [← hH6]; exact AH.gPo hb
       clear hH6
       obtain ⟨v6, x6⟩ := hV3.over (A1 := H6) (x' := (6, ⟨#[]⟩, S.stack.drop i)) (ch' := t1) (dead' := true) (by omega) (fun b hb hp => (o6 b hp).trans ((hE5.get b (by omega)).trans (oa b hp))) gp6
       have hX7 : ExtX [A.size] H6 (H6.put A.size (.cells [.int .i64 6, .string ByteArray.empty, t1.v] 3)) := (ExtX.refl _ _).put (by simp) _
       subst hU
       refine ⟨(6, ⟨#[]⟩, S.stack.drop i), t1, Fa, rfl, rfl, SlR.frame ha1 fun b hb => ?_, fun b hb => by have := ha2.lo b hb; omega, md1, st, G1, v6.extx hX7 (fun b hb => ?_), ⟨by simp only [AH.zP]; omega, fun b hb hm => ?_⟩, fun b hb => (hF1 b hb).1⟩
       ·have := ha2.lo b hb
        have := ha2.hi b hb
        exact ⟨(AH.gPo (by omega)).trans (o6 b (by omega)), by simp only [AH.zP]; omega⟩
       ·rw [List.mem_singleton.1 hb]
        exact ⟨by omega, fun hm => (hF1 _ hm).2 rfl⟩
       ·refine (AH.gPo (by omega)).trans ((x6.get b (by omega) fun h => ?_).trans (hX3.get b hb hm))
        rcases (hF1 b h).1 with h | h
        ·exact hm h
        ·omega
      ·simp (disch := first | omega | fail) only [amR Tryz.prog ro X, amS, seval, reduceCtorEq, ty3, ty4, ty9, ty22, ty42, ty43, ty45, ty56, ty58, ty79, ty147, ty149, ty154, ty156, ty157, ty159, ty208, f0, f1, f4, f5, f7, f9, gp3, n1, c1, hx]
       exact ⟨S.stack.length - (i + 1), by omega, i + 1, by omega, rfl, by simp, idxL_on hil hno hx⟩
     have hil : i = S.stack.length := by simp at h; omega
     subst hil
     rw [List.take_length] at hno
     rw [hno] at hU
     simp only at hU
     cases d with
     | zero =>
       have hl60 : (60 : Int) ≤ S.stack.length := by omega
       simp only at hU
       simp (disch := first | omega | fail) only [amR Tryz.prog ro X, amS, seval, reduceCtorEq, ty3, ty4, ty9, ty22, ty42, ty43, ty45, ty56, ty58, ty79, ty147, ty149, ty154, ty156, ty157, ty159, ty208, f0, f1, f4, f5, f7, f9, gp3, gr3, hsl, hl60]
       generalize hH6 : AH.put (G.put K.p _) K.p _ = H6
       have z6 : H6.size = G.size := by rw [← hH6]; rfl
       have gp6 : H6.get K.p = .cells (scV K md1 st (7, n, []) .nil true) 8 := by rw [← hH6]; exact AH.gPs _ _ _
       have o6 : ∀ b, b ≠ K.p → H6.get b = G.get b := fun b hb => by rw [← hH6]; exact (AH.gPo hb).trans (AH.gPo hb)
       clear hH6
       obtain ⟨v6, x6⟩ := hV3.over (A1 := H6) (x' := (7, n, [])) (ch' := .nil) (dead' := true) (by omega) (fun b hb hp => o6 b hp) gp6
       have hX7 : ExtX [A.size] H6 (H6.put A.size (.cells [.int .i64 7, .string n, Sl.nil.v] 3)) := (ExtX.refl _ _).put (by simp) _
       subst hU
       refine ⟨(7, n, []), .nil, [], rfl, rfl, .nil rfl rfl rfl, (by simp), md1, st, G1, v6.extx hX7 (fun b hb => ?_), ⟨by simp only [AH.zP]; omega, fun b hb hm => ?_⟩, fun b hb => (hF1 b hb).1⟩
       ·rw [List.mem_singleton.1 hb]
        exact ⟨by omega, fun hm => (hF1 _ hm).2 rfl⟩
       ·refine (AH.gPo (by omega)).trans ((x6.get b (by omega) fun h => ?_).trans (hX3.get b hb hm))
        rcases (hF1 b h).1 with h | h
        ·exact hm h
        ·omega
     | succ d =>
     have hl60 : ¬ (60 : Int) ≤ S.stack.length := by omega
     simp only at hU
     obtain ⟨m2, H7, p1, p2, p3, p4, p5, p6⟩ := (hV3.sst.ext (Ext.new G (.cells [.string n] 1))).push (P := Tryz.prog) (ro := ro) hB (by simp only [AH.zN]; have := hV3.base.size; omega) (t := 22) (by simp only [ty22]) (x := Sl.v ⟨false, G.size, 0, 1, 1⟩) (v := n) (by simp [Sl.v, aSource, aRow_eq, AH.gNs, rowK]) (by unfold BIG; omega) (by omega)
     simp only [AH.zN] at p3 p4 p6
     have o7 : ∀ b, b < G.size → (st.nl = true ∨ b ≠ st.b) → H7.get b = G.get b := fun b h1 h2 => (p4 b (by omega) h2).trans (AH.gNo (by omega))
     have hstn : ∀ b, (st.nl = false → b ≠ st.b) → st.nl = true ∨ b ≠ st.b := fun b hb => by
      cases ho : st.nl
      ·exact .inr (hb ho)
      ·exact .inl rfl
     have gp7 := (o7 K.p (by omega) (hstn _ fun hn => Ne.symm (ap3.2.1 hn))).trans gp3
     have hAst : st.nl = false → A.size ≠ st.b := fun hn e => (hF1 _ (mem_ftpS.2 (.inr (.inr (.inl ⟨hn, rfl⟩))))).2 e.symm
     have gr7 := (o7 A.size (by omega) (hstn _ hAst)).trans gr3
     obtain ⟨cc, tq, Ft, w1, w2, w3, w4, w5, w6, w7, w8, w9, w10, w11⟩ := q2.target hjl
     rw [e3] at w9
     simp only at w9
     have w2' : K.s2.b < G.size := by have := hV3.base.size; omega
     have w4' := (o7 K.s2.b w2' (hstn _ fun hn e => by have := (hV3.sst.bd hn).1; omega)).trans ((hV3.base.get _ w2).trans w4)
     have w12 : rowK (K.s2.o + j * 2 + 1) 1 (.cells cc 2) = some [tq.v] := by
      unfold rowK
      simp only
      rw [if_pos (by omega)]
      congr 1
      refine List.ext_getElem? fun z => ?_
      rw [List.getElem?_take]
      by_cases hz : z < 1
      ·obtain rfl : z = 0 := by omega
       rw [if_pos hz, List.getElem?_drop, Nat.add_zero, w6]; rfl
      ·rw [if_neg hz, List.getElem?_eq_none (by simp; omega)]
     have w13 : (cc.drop (K.s2.o + j * 2 + 1)).take 1 = [tq.v] := by
      have := w12
      unfold rowK at this
      simp only at this
      rw [if_pos (by omega)] at this
      exact Option.some.inj this
     simp (disch := first | omega | fail) only [amR Tryz.prog ro X, amS, seval, reduceCtorEq, ty3, ty4, ty9, ty22, ty42, ty43, ty45, ty56, ty58, ty79, ty147, ty149, ty154, ty156, ty157, ty159, ty208, f0, f1, f4, f5, f7, f9, gp3, hsl, hl60, p1, gp7, w1, w4', w12]
     rw [w13]
     have p6' : (m2.b = st.b ∧ st.nl = false) ∨ G.size ≤ m2.b := by rcases p6 with h | h; exact .inl h; exact .inr (by omega)
     obtain ⟨v8, x8, y8⟩ := hV3.stack (l := S.stack ++ [n]) (A1 := H7) (st' := m2) (by omega) o7 p2 (fun _ => p6') rfl
     unfold scV at v8 x8
     generalize hH8 : AH.put H7 K.p _ = H8 at v8 x8 ⊢
     have z8 : H8.size = H7.size := by rw [← hH8]; rfl
     have gr8 : H8.get A.size = _ := (by rw [← hH8]; exact AH.gPo (Ne.symm hpA) : H8.get A.size = H7.get A.size).trans gr7
     clear hH8
     obtain ⟨hP, hPl⟩ := pushS_ok hS1 hmd ht hno
     have hIp : InvS K.sp (pushS S n) := ⟨hI1.nodup, hI1.made, hI1.ext, hI1.miss, hI1.uniq, hI1.looks⟩
     have hu := underG_ok hsp (cleanMk_ok (sp := K.sp)) d
     have w := goR_goes hu (underG_goes hsp d) (hsp.prog ht) (startR_ok (hsp.prog ht)) [] hIp hP
     obtain ⟨v1, v2⟩ := goR_ok hu (hsp.prog ht) (startR_ok (hsp.prog ht)) [] hP
     rw [cleanMk_eq] at hU
     have hF8 : ∀ b ∈ ftpS K md1 m2 G1, (b ∈ Fp ∨ A.size ≤ b) ∧ b ≠ A.size := fun b hb => by
      rcases y8 b hb with h | h
      ·exact hF1 b h
      ·exact ⟨.inr (by omega), by omega⟩
     have hX8 : ExtX Fp A H8 := hX3.comp x8 fun b hb => (hF1 b hb).1
     refine (hR d rfl H8 (pushS S n) md1 m2 G1 q tq Ft (by omega) v8 hIp hP (hsp.prog ht) w9 (hRm1.push hP hPl rfl) (by show (S.stack ++ [n]).length + d = 60; rw [List.length_append]; show S.stack.length + 1 + d = 60; omega)).mono ?_
     generalize goR (underG (cleanMk K.sp) K.sp d) K.sp q (startR q) [] (pushS S n) = g2 at hU w v1 v2 ⊢
     obtain ⟨S2, res⟩ := g2
     intro R H9 hRes
     cases res with
     | error e =>
       obtain ⟨r, ch, Fc, u, rfl, rfl, hch, hFc, md9, st9, G9, v9, x9, y9⟩ := hRes
       replace v9 : SpV K H9 S2 md9 st9 G9 r ch true := v9
       have z9 := x9.size
       have gp9 := v9.gp
       unfold scV at gp9
       have hp9 := v9.p1
       have hF9 : ∀ b ∈ ftpS K md9 st9 G9, (b ∈ Fp ∨ A.size ≤ b) ∧ b ≠ A.size := fun b hb => by
        rcases y9 b hb with h | h
        ·exact hF8 b h
        ·exact ⟨.inr (by omega), by omega⟩
       have gr9 := (x9.get A.size (by omega) fun hm => (hF8 _ hm).2 rfl).trans gr8
       have hX9 : ExtX Fp A H9 := hX8.comp x9 fun b hb => (hF8 b hb).1
       simp only at hU
       unfold stopV
       simp (disch := first | omega | fail) only [amR Tryz.prog ro X, amS, seval, reduceCtorEq, ty3, ty4, ty9, ty22, ty42, ty43, ty45, ty56, ty58, ty79, ty147, ty149, ty154, ty156, ty157, ty159, ty208, f0, f1, f4, f5, f7, gp9, gr9]
       generalize hHa : AH.put (H9.new _) H9.size _ = Ha
       have za : Ha.size = H9.size + 1 := by rw [← hHa]; rfl
       have hEa : Ext H9 Ha := by rw [← hHa]; exact (by ((repeat' (first | exact Ext.refl _ | assumption | refine Ext.trans ?_ (Ext.new _ _) | refine Ext.put ?_ ?_ _ | refine Ext.trans ?_ (by assumption))) <;> (first | omega | (simp only [AH.zN, AH.zP] <;> omega))))
       clear hHa
       have hX7 : ExtX [A.size] Ha (Ha.put A.size (.cells [.int .i64 r.1, .string r.2.1, ch.v] 3)) := (ExtX.refl _ _).put (by simp) _
       subst hU
       refine ⟨r, ch, Fc, rfl, rfl, (hch.ext hEa).extx hX7 (fun b hb => by have := hFc b hb; simp only [List.mem_singleton]; omega), fun b hb => by have := hFc b hb; omega, md9, st9, G9, (v9.ext hEa).extx hX7 (fun b hb => ?_), ⟨by simp only [AH.zP]; omega, fun b hb hm => ?_⟩, fun b hb => (hF9 b hb).1⟩
       ·rw [List.mem_singleton.1 hb]
        exact ⟨by omega, fun hm => (hF9 _ hm).2 rfl⟩
       ·exact (AH.gPo (by omega)).trans ((hEa.get b (by omega)).trans (hX9.get b hb hm))
     | ok x =>
       obtain ⟨⟨c, tx⟩, seen⟩ := x
       obtain ⟨sl, Fl, md9, st9, G9, rfl, hsl9, v9, x9, y9, hFl⟩ := hRes
       replace v9 : SpV K H9 S2 md9 st9 G9 x0R .nil false := v9
       have z9 := x9.size
       have gp9 := v9.gp
       unfold scV at gp9
       have hp9 := v9.p1
       have hF9 : ∀ b ∈ ftpS K md9 st9 G9, (b ∈ Fp ∨ A.size ≤ b) ∧ b ≠ A.size := fun b hb => by
        rcases y9 b hb with h | h
        ·exact hF8 b h
        ·exact ⟨.inr (by omega), by omega⟩
       have gr9 := (x9.get A.size (by omega) fun hm => (hF8 _ hm).2 rfl).trans gr8
       have hX9 : ExtX Fp A H9 := hX8.comp x9 fun b hb => (hF8 b hb).1
       simp only at hU
       simp only [madeV]
       simp (disch := first | omega | fail) only [amR Tryz.prog ro X, amS, seval, reduceCtorEq, ty3, ty4, ty9, ty22, ty42, ty43, ty45, ty56, ty58, ty79, ty147, ty149, ty154, ty156, ty157, ty159, ty208, f0, f1, f4, f5, f7, gp9, gr9]
       generalize hHa : AH.put (H9.new _) H9.size _ = Ha
       have za : Ha.size = H9.size + 1 := by rw [← hHa]; rfl
       have hEa : Ext H9 Ha := by rw [← hHa]; exact (by ((repeat' (first | exact Ext.refl _ | assumption | refine Ext.trans ?_ (Ext.new _ _) | refine Ext.put ?_ ?_ _ | refine Ext.trans ?_ (by assumption))) <;> (first | omega | (simp only [AH.zN, AH.zP] <;> omega))))
       have g10 : Ha.get H9.size = .cells [.int .i64 c, .string tx, Sl.nil.v] 3 := by rw [← hHa]; exact AH.gPs _ _ _
       clear hHa
       have vA := v9.ext hEa
       have gpA := vA.gp
       unfold scV at gpA
       obtain ⟨hst2, hrok⟩ := v2 (c, tx) seen rfl
       have hst2' : S2.stack = S.stack ++ [n] := hst2
       have hl2' : S2.stack.length = S.stack.length + 1 := by rw [hst2']; simp
       have hml : st9.len = S.stack.length + 1 := vA.sst.len.trans hl2'
       obtain ⟨m4, u1, u2, u3, u4⟩ := vA.sst.upto (P := Tryz.prog) (t := 22) (by simp only [ty22]) (i := S.stack.length) (by omega)
       have e1' : ((S.stack.length + 1 : Nat) : Int) - 1 = (S.stack.length : Int) := by omega
       refine Wp.runG [] (by kernel_rfl) (.inl (by kernel_rfl)) ?_
       simp (disch := first | omega | fail) only [amR Tryz.prog ro X, amS, seval, reduceCtorEq, ty3, ty4, ty9, ty22, ty42, ty43, ty45, ty56, ty58, ty79, ty147, ty149, ty154, ty156, ty157, ty159, ty208, f0, f1, f4, f5, f7, gpA, hml, e1', u1]
       have gpA' := gpA
       obtain ⟨vB, xB, yB⟩ := vA.stack (l := S2.stack.take S.stack.length) (A1 := Ha) (st' := m4) (Nat.le_refl _) (fun b hb hn => rfl) u2 (fun hn => .inl ⟨u4, u3 ▸ hn⟩) rfl
       unfold scV at vB xB
       generalize hHb : AH.put Ha K.p _ = Hb at vB xB ⊢
       have zb : Hb.size = Ha.size := by rw [← hHb]; rfl
       have hpa : K.p < Ha.size := by omega
       have hp9' : K.p ≠ H9.size := by omega
       have gB : Hb.get H9.size = _ := (by rw [← hHb]; exact AH.gPo (Ne.symm hp9') : Hb.get H9.size = Ha.get H9.size).trans g10
       have grB : Hb.get A.size = _ := (by rw [← hHb]; exact AH.gPo (Ne.symm hpA) : Hb.get A.size = Ha.get A.size).trans ((hEa.get A.size (by omega)).trans gr9)
       have oB : ∀ b, b ≠ K.p → Hb.get b = Ha.get b := fun b hb => by rw [← hHb]; exact AH.gPo hb
       clear hHb
       have gpB := vB.gp
       unfold scV at gpB
       have hk2 := idxL_pre w.pre hk
       have hn2 : n ∈ S2.stack := by rw [hst2']; simp
       have hmd2 : lookL n S2.made = none := stack_unmade v1.ok hn2
       have hak2 := (idxL_some hk2).1
       have hkn2 : S2.asked[k] = n := by obtain ⟨w1, w2⟩ := List.getElem?_eq_some_iff.1 (idxL_some hk2).2.1; exact w2
       obtain ⟨c1, c2, s2, y, m1, m2', m3, m4', m5, m6, m7, m8, m9, m10, hs2, hfill⟩ := vB.row (k := k) (by rw [rowsOf_len]; exact hak2)
       have hyn : y.1 = n := by rw [m7, rowsOf_get, rowOf_name]; exact hkn2
       obtain ⟨cs, hcs⟩ : ∃ cs, cs = c1 ++ ([.string y.1, .int .i64 y.2.1.1, .string y.2.1.2.1, Sl.nil.v, Sl.v s2, .bool y.2.2.2] ++ c2) := ⟨_, rfl⟩
       rw [← hcs] at m8
       have hcl : k * 6 + 6 ≤ cs.length := by rw [hcs]; simp only [List.length_append, List.length_cons, List.length_nil]; omega
       have hcl2 : ∀ o vs, (setCells cs o vs).length = cs.length := fun o vs => setCells_length _ _ _
       have hmb := v9.bound _ (mem_ftpS.2 (.inr (.inl ⟨m1, rfl⟩)))
       have hmr : md9.b ≠ A.size := fun e => (hF9 _ (mem_ftpS.2 (.inr (.inl ⟨m1, rfl⟩)))).2 e
       have hm9 : md9.b ≠ H9.size := by omega
       refine Wp.runG [] (by kernel_rfl) (.inl (by kernel_rfl)) ?_
       simp (disch := first | omega | fail) only [amR Tryz.prog ro X, amS, seval, reduceCtorEq, ty3, ty4, ty9, ty22, ty42, ty43, ty45, ty56, ty58, ty79, ty147, ty149, ty154, ty156, ty157, ty159, ty208, f0, f1, f4, f5, f7, gpB, gB, grB, m1, m8, hcl2]
       have hrow : y = (n, (0, ⟨#[]⟩, .mk), [], false) := by
        rw [m7, rowsOf_get]
        unfold rowOf
        rw [hkn2, hmd2]
       have hcell : setCells (setCells (setCells cs (md9.o + k * 6 + 1) [.int .i64 c, .string tx, Sl.nil.v]) (md9.o + k * 6 + 4) [sl.v]) (md9.o + k * 6 + 5) [.bool true] = c1 ++ ([.string y.1, .int .i64 c, .string tx, Sl.nil.v, Sl.v sl, .bool true] ++ c2) := by
        rw [hcs, m2', Nat.zero_add, setCells_mid _ c1 _ _ 1 m9 (by simp), setCells_mid _ c1 _ _ 4 m9 (by simp [setCells]), setCells_mid _ c1 _ _ 5 m9 (by simp [setCells])]
        rfl
       generalize hHx : AH.put (AH.put (AH.put Hb md9.b _) md9.b _) md9.b _ = Hx
       have zx : Hx.size = Hb.size := by rw [← hHx]; rfl
       have hx1 : Hx.get md9.b = .cells (c1 ++ ([.string y.1, .int .i64 c, .string tx, Sl.nil.v, Sl.v sl, .bool true] ++ c2)) 6 := by
        rw [← hHx, AH.gPs]
        exact congrArg (fun l => AObj.cells l 6) hcell
       have hx2 : ∀ b, b ≠ md9.b → Hx.get b = Hb.get b := fun b hb => by rw [← hHx]; exact (AH.gPo hb).trans ((AH.gPo hb).trans (AH.gPo hb))
       clear hHx
       have hFlb : ∀ b ∈ Fl, b < H9.size ∧ b ≠ md9.b ∧ b ≠ K.p := fun b hb => by
        obtain ⟨_, w2, _⟩ := hFl b hb
        exact ⟨hsl9.bound b hb, fun e => w2 (mem_ftpS.2 (.inr (.inl ⟨m1, e⟩))), fun e => w2 (mem_ftpS.2 (.inl e))⟩
       have oxl : ∀ b ∈ Fl, Hx.get b = H9.get b := fun b hb => by
        obtain ⟨w1, w2, w3⟩ := hFlb b hb
        exact (hx2 b w2).trans ((oB b w3).trans (hEa.get b w1))
       have hS' : madeS (popS ⟨S2.asked, S2.made, S2.stack, S2.ext ++ [(n, seen)]⟩) n (c, tx) = ⟨S2.asked, S2.made ++ [(n, (c, tx))], S2.stack.take S.stack.length, S2.ext ++ [(n, seen)]⟩ := by
        unfold popS madeS
        simp only [hl2', Nat.add_sub_cancel]
       obtain ⟨G', v', x', y'⟩ := hfill Hx ⟨S2.asked, S2.made ++ [(n, (c, tx))], S2.stack.take S.stack.length, S2.ext ++ [(n, seen)]⟩ (c, tx) seen sl Fl (by have := hrok.2.2; show tx.size < BIG; unfold BIG; simp only at this; omega) hx1 (by omega) (fun b hb hn => hx2 b hn) (hsl9.frame fun b hb => ⟨oxl b hb, by have := hFlb b hb; omega⟩)
        (fun b hb => by
          obtain ⟨w1, w2, cc', w3⟩ := hFl b hb
          exact ⟨by omega, (hFlb b hb).2.1, cc', (oxl b hb).trans w3⟩) (by rw [hrow]; exact rowsOf_madeX w.inv hk2 hmd2) rfl
       subst hU
       have hX5 : ExtX [A.size] Hx (Hx.put A.size (.cells [.int .i64 c, .string tx, Sl.nil.v] 3)) := (ExtX.refl _ _).put (by simp) _
       have hFB : ∀ b ∈ ftpS K md9 m4 G9, (b ∈ Fp ∨ A.size ≤ b) ∧ b ≠ A.size := fun b hb => by
        rcases yB b hb with h | h
        ·exact hF9 b h
        ·exact ⟨.inr (by omega), by omega⟩
       have hG' : ∀ b ∈ ftpS K md9 m4 G', (b ∈ Fp ∨ A.size ≤ b) ∧ b ≠ A.size := fun b hb => by
        rcases mem_ftpS.1 hb with e | e | e | e
        ·exact hFB b (mem_ftpS.2 (.inl e))
        ·exact hFB b (mem_ftpS.2 (.inr (.inl e)))
        ·exact hFB b (mem_ftpS.2 (.inr (.inr (.inl e))))
        ·rcases y' b e with e | e
         ·exact hFB b (mem_ftpS.2 (.inr (.inr (.inr e))))
         ·have := (hFl b e).1
          exact ⟨.inr (by omega), by omega⟩
       rw [hS']
       have hmF9 := hF9 md9.b (mem_ftpS.2 (.inr (.inl ⟨m1, rfl⟩)))
       have hpF9 := hF9 K.p (mem_ftpS.2 (.inl rfl))
       refine ⟨rfl, md9, m4, G', v'.extx hX5 (fun b hb => ?_), ⟨by simp only [AH.zP]; omega, fun b hb hm => ?_⟩, fun b hb => (hG' b hb).1⟩
       ·rw [List.mem_singleton.1 hb]
        exact ⟨by omega, fun hm => (hG' _ hm).2 rfl⟩
       ·refine (AH.gPo (by omega)).trans ((hx2 b fun e => ?_).trans ((oB b fun e => ?_).trans ((hEa.get b (by omega)).trans (hX9.get b hb hm))))
        ·rcases hmF9.1 with h | h
         ·exact hm (e ▸ h)
         ·omega
        ·rcases hpF9.1 with h | h
         ·exact hm (e ▸ h)
         ·omega
end Go.Proofs.YtmelgjblkmbhjaaGreatDoor.Amu.Smake
