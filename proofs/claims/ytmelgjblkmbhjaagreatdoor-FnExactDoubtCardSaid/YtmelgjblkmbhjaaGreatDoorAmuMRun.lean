import Derived.Test.YtmelgjblkmbhjaaGreatDoorAmuTy
import Derived.Test.YtmelgjblkmbhjaaGreatDoorAmMake
import Derived.Test.YtmelgjblkmbhjaaGreatDoorAmuProg
import Derived.Test.YtmelgjblkmbhjaaGreatDoorAmuTurn
import Derived.Test.YtmelgjblkmbhjaaGreatDoorAmuForm
import Derived.Test.YtmelgjblkmbhjaaGreatDoorAmuHas
import Derived.Test.YtmelgjblkmbhjaaGreatDoorAmuUnder
namespace Go.Proofs.YtmelgjblkmbhjaaGreatDoor.Amu.MRun
open Go Go.AM Go.Proofs
set_option linter.all false
open Ty
variable {ro : Nat} {X : FuncId → List Value → AH → ARes → AH → Prop} {σ : Type}
set_option maxRecDepth 10000
open Mach (mc tc)
open Turn (tcl stk_ne)
theorem norm {P : Program} {a : Code} {Q : Post} {e : Env} {A : AH} (h : RunC P ro X a (fun x e A => x = .normal ∧ Q .normal e A) e A) : RunC P ro X a Q e A :=
 RunC.mono a (fun x e A hx => by
  obtain ⟨rfl, h⟩ := hx
  exact h) e A h
set_option maxHeartbeats 4000000 in
theorem mrun_a {K : Mkc} {J : AH → σ → List Nat → Prop} {pv : Stop → Value → AH → Prop} {C d : Nat} {und : Under σ} (hB : ro ≤ K.B.size) (hJ : JOk K.top J) (hT : Tab 0 K.B) (hP : Pow 6 K.B) (hu : UndOk K.sp C und)
 (hU : UndC Tryz.prog ro X 96 K J pv C d und) (A : AH) (S : Shop σ) (os ms : Sl) (es3 es4 : SMap) (FJ : List Nat) (p : TProgram) (cs : Sl) (F : List Nat) (hro : ro ≤ A.size) (hV : MkV K J A S os ms es3 es4 FJ) (hS : ShopOk K.sp S) (hok : ProgOk p) (hc : SlR K.B cs p F) (hRm : Room C K.sp 202 S) (hd : S.stack.length + d = 60) :
 ACalls Tryz.prog ro X 94 [.pointer (some ⟨K.p, 0, none⟩), .agg #[cs.v]] A (RunPost K J pv A (ftp K os ms FJ) (goR und K.sp p (startR p) [] S)) := by
 obtain ⟨b1, b2, b3, b4, b5, b6, b7⟩ := hV.k.nums
 have htop := hV.k.top
 have hftp := hV.bound
 generalize hG : goR und K.sp p (startR p) [] S = g
 refine ACalls.enterQ (rs := [.cell 4 79, .tmp 5]) Tryz.func94 rfl (by kernel_rfl) rfl ?_
 simp (maxSteps := 2000000) (disch := first | omega | (simp only [AH.zN, AH.zP] <;> omega) | fail) only [amR Tryz.prog ro X, amS, seval, reduceCtorEq, ty3, ty4, ty9, ty22, ty56, ty58, ty79, ty106, ty122, ty126, ty133, ty157, ty208]
 generalize hH : AH.new (AH.new (A.new _) _) _ = H
 have zH : H.size = A.size + 3 := by rw [← hH]; rfl
 have hEH : Ext A H := by rw [← hH]; exact (by ((repeat' (first | exact Ext.refl _ | assumption | refine Ext.trans ?_ (Ext.new _ _) | refine Ext.put ?_ ?_ _ | refine Ext.trans ?_ (by assumption))) <;> (first | omega | (simp only [AH.zN, AH.zP] <;> omega))))
 have gm : H.get (A.size + 2) = .cells (mc cs .nil 0 0 0 false ByteArray.empty) 7 := by rw [← hH]; exact AH.gNs _ _
 have gr : H.get (A.size + 1) = .cells [.int .i64 0, .string ByteArray.empty, Sl.nil.v] 3 := by rw [← hH]; simp (maxSteps := 2000000) (disch := first | omega | (simp only [AH.zN, AH.zP] <;> omega) | fail) only [amV, amH, amQ, amL, amN Tryz.prog, amS, seval, reduceCtorEq, ty3, ty4, ty9, ty22, ty56, ty58, ty79, ty106, ty122, ty126, ty133, ty157, ty208]
 clear hH
 have hEB : Ext K.B H := hV.k.base.trans hEH
 have zB := hV.k.base.size
 have hcH := hc.ext hEB
 have hpF : A.size + 2 ∉ F := fun h => by have := hc.bound _ h; omega
 refine (Mach.run_a (lo := K.B.size) H (by first | omega | (simp only [AH.zN, AH.zP] <;> omega)) (hT.ext hEB) (hP.ext hEB) (A.size + 2) (by omega) (by omega) (by omega) (by omega) cs p F hcH hpF hok m0 m0_ok .nil .nil (.inl rfl) false ByteArray.empty gm).mono ?_
 rintro R Hr ⟨rfl, hXr, hlook⟩
 have zr := hXr.size
 have hstart : runR p m0 = startR p := rfl
 rw [hstart] at hlook
 rw [hstart]
 simp (disch := first | omega | fail) only [amR Tryz.prog ro X, amS, seval, reduceCtorEq, ty3, ty4, ty9, ty22, ty56, ty58, ty79, ty106, ty122, ty126, ty133, ty157, ty208, tc]
 generalize hHt : AH.put (AH.new Hr _) Hr.size _ = Ht
 have zt : Ht.size = Hr.size + 1 := by rw [← hHt]; rfl
 have hEt : Ext Hr Ht := by rw [← hHt]; exact (by ((repeat' (first | exact Ext.refl _ | assumption | refine Ext.trans ?_ (Ext.new _ _) | refine Ext.put ?_ ?_ _ | refine Ext.trans ?_ (by assumption))) <;> (first | omega | (simp only [AH.zN, AH.zP] <;> omega))))
 have gq : Ht.get Hr.size = .cells (tcl (turnOf (startR p))) 6 := by rw [← hHt]; exact AH.gPs _ _ _
 clear hHt
 have grt := (hEt.get (A.size + 1) (by omega)).trans ((hXr.get (A.size + 1) (by omega) (by simp)).trans gr)
 have hEr : Ext A Hr := ⟨by omega, fun b hb => (hXr.get b (by omega) (by simp only [List.mem_singleton]; omega)).trans (hEH.get b hb)⟩
 generalize hq : Hr.size = q
 rw [hq] at gq zt
 refine Wp.loopC (fun k e H2 => e 0 = .pointer (some ⟨K.p, 0, none⟩) ∧ e 4 = .pointer (some ⟨A.size + 1, 0, none⟩) ∧ e 6 = .pointer (some ⟨A.size + 2, 0, none⟩) ∧ e 7 = .pointer (some ⟨q, 0, none⟩) ∧
  ∃ (t : Tick) (S' : Shop σ) (os' ms' : Sl) (es3' es4' : SMap) (FJ' : List Nat) (seen : List TSeen) (u : Sl), e 8 = u.v ∧ k = fuelT t ∧ TickOk t ∧ goR und K.sp p t seen S' = g ∧ MkV K J H2 S' os' ms' es3' es4' FJ' ∧ ExtX (ftp K os ms FJ) A H2 ∧
    (∀ b ∈ ftp K os' ms' FJ', (b ∈ ftp K os ms FJ ∨ A.size ≤ b) ∧ b ≠ A.size + 1 ∧ b ≠ A.size + 2 ∧ b ≠ q ∧ (u.nl = false → b ≠ u.b)) ∧ ShopOk K.sp S' ∧ S'.stack = S.stack ∧ Room C K.sp (fuelT t) S' ∧ seen.length + fuelT t ≤ 202 ∧
    q < H2.size ∧ H2.get q = .cells (tcl (turnOf t)) 6 ∧ H2.get (A.size + 1) = .cells [.int .i64 0, .string ByteArray.empty, Sl.nil.v] 3 ∧ Acc A.size H2 u seen [] ∧ (u.nl = false → u.b < H2.size ∧ u.b ≠ A.size + 1 ∧ u.b ≠ A.size + 2 ∧ u.b ≠ q) ∧
    ∀ a n m, t = .look a n m → ∃ s, H2.get (A.size + 2) = .cells (mc cs s m.pc m.steps m.looks a n) 7 ∧ Stk K.B.size H2 s m.st ∧ (s.nl = true ∨ s.b ≠ A.size + 2) ∧ (s.nl = false → A.size ≤ s.b ∧ s.b ∉ ftp K os' ms' FJ' ∧ (u.nl = false → s.b ≠ u.b))) (fuelT (startR p)) ?_ ?_
 ·simp (disch := first | omega | fail) only [amV, amH, amQ, amL, amN Tryz.prog, amS, seval, reduceCtorEq, ty3, ty4, ty9, ty22, ty56, ty58, ty79, ty106, ty122, ty126, ty133, ty157, ty208]
  refine ⟨startR p, S, os, ms, es3, es4, FJ, [], Sl.nil, rfl, rfl, startR_ok hok, hG, hV.ext hJ (hEr.trans hEt), (hEr.trans hEt).x _, fun b hb => ?_, hS, rfl, hRm.less (fuelT_le _), by have := fuelT_le (startR p); simpa using this, by omega, gq, grt, .nil, (fun h => by cases h), fun a n m h => ?_⟩
  ·have := (hftp b hb).1
   exact ⟨.inl hb, by omega, by omega, by omega, fun h => by cases h⟩
  ·obtain ⟨s', q1, q2, q3, q4⟩ := hlook a n m h
   refine ⟨s', (hEt.get _ (by omega)).trans q1, q2.ext hEt, q3, fun hn => ?_⟩
   rcases q4 with ⟨q4, _⟩ | q4
   ·rw [hn] at q4; cases q4
   ·exact ⟨by omega, fun hm => by have := (hftp _ hm).1; omega, fun h => by cases h⟩
 rintro k e H2 ⟨e0, e4, e6, e7, t, S', os', ms', es3', es4', FJ', seen, u, e8, rfl, hok2, hgo, hV2, hX2, hF2, hS2, hst2, hRm2, hsl, hqs, gq2, gr2, hacc, hub, hlk⟩
 have z2 := hX2.size
 have gq3 := gq2
 unfold tcl at gq3
 cases t with
 | go m => exact hok2.elim
 | fin c tx st =>
   simp only [turnOf] at gq3
   rw [goR_fin] at hgo
   simp (disch := first | omega | fail) only [amR Tryz.prog ro X, amS, seval, reduceCtorEq, ty3, ty4, ty9, ty22, ty56, ty58, ty79, ty106, ty122, ty126, ty133, ty157, ty208, e0, e4, e6, e7, e8, gq3, gr2]
   subst hgo
   have hbd2 := hV2.bound
   obtain ⟨Fl, l1, l2, l3, l4⟩ := hacc.foot (fun b hb => by cases hb) List.nodup_nil
   have hul : ∀ b ∈ Fl, A.size ≤ b ∧ b < H2.size ∧ u.nl = false ∧ b = u.b := fun b hb => by
    rcases l4 b hb with ⟨k1, rfl⟩ | h
    ·exact ⟨l3 _ hb, l1.bound _ hb, k1, rfl⟩
    ·cases h
   refine ⟨os', ms', es3', es4', FJ', hV2.extx hJ (G := [A.size + 1]) ((ExtX.refl _ _).put (by simp) _) (fun b hb => ?_), hX2.comp (G := [A.size + 1]) ((ExtX.refl _ _).put (by simp) _) (fun b hb => .inr (by rw [List.mem_singleton.1 hb]; omega)), fun b hb => (hF2 b hb).1, u, Fl, rfl, l1.extx ((ExtX.refl [A.size + 1] H2).put (by simp) _) (fun b hb => ?_), fun b hb => ?_⟩
   ·rw [List.mem_singleton.1 hb]
    exact ⟨by omega, fun hm => (hF2 _ hm).2.1 rfl⟩
   ·obtain ⟨k1, k2, k3, rfl⟩ := hul b hb
    simpa using (hub k3).2.1
   ·obtain ⟨k1, k2, k3, rfl⟩ := hul b hb
    exact ⟨k1, k2, fun hm => (hF2 _ hm).2.2.2.2 k3 rfl⟩
 | look a n m =>
   simp only [turnOf] at gq3
   obtain ⟨s, gm2, hs, hsp, hsf⟩ := hlk a n m rfl
   have hM1 : A.size + 2 < q := by omega
   have step : ∀ (y : TReply) (S3 : Shop σ) (os3 ms3 : Sl) (es33 es43 : SMap) (FJ3 : List Nat) (seen3 : List TSeen) (u3 : Sl) (H5 H6 : AH) (c5 : List Value), y.2.2.size ≤ 2000 → goR und K.sp p (toldR p a n m y) seen3 S3 = g → MkV K J H5 S3 os3 ms3 es33 es43 FJ3 → ExtX (ftp K os ms FJ) A H5 →
    (∀ b ∈ ftp K os3 ms3 FJ3, (b ∈ ftp K os ms FJ ∨ A.size ≤ b) ∧ b ≠ A.size + 1 ∧ b ≠ A.size + 2 ∧ b ≠ q ∧ (u3.nl = false → b ≠ u3.b)) → ShopOk K.sp S3 → S3.stack = S.stack → Room C K.sp (fuelT (.look a n m) - 1) S3 → seen3.length + (fuelT (.look a n m) - 1) ≤ 202 →
    q < H5.size → H5.get q = .cells c5 6 → H5.get (A.size + 1) = .cells [.int .i64 0, .string ByteArray.empty, Sl.nil.v] 3 → Acc A.size H5 u3 seen3 [] → (u3.nl = false → u3.b < H5.size ∧ u3.b ≠ A.size + 1 ∧ u3.b ≠ A.size + 2 ∧ u3.b ≠ q) →
    Stk K.B.size H5 s m.st → (s.nl = false → A.size ≤ s.b ∧ s.b ∉ ftp K os3 ms3 FJ3 ∧ (u3.nl = false → s.b ≠ u3.b)) → H5.size ≤ H6.size → (∀ b, b < H5.size → b ≠ A.size + 2 → (s.nl = true ∨ b ≠ s.b) → H6.get b = H5.get b) →
    (∀ a' n' m', toldR p a n m y = .look a' n' m' → ∃ s', H6.get (A.size + 2) = .cells (mc cs s' m'.pc m'.steps m'.looks a' n') 7 ∧ Stk K.B.size H6 s' m'.st ∧ (s'.nl = true ∨ s'.b ≠ A.size + 2) ∧ ((s'.b = s.b ∧ s.nl = false) ∨ H5.size ≤ s'.b)) →
    ∃ k, k < fuelT (.look a n m) ∧ ∃ (t : Tick) (S' : Shop σ) (os' ms' : Sl) (es3' es4' : SMap) (FJ' : List Nat) (seen : List TSeen) (u : Sl), u3.v = u.v ∧ k = fuelT t ∧ TickOk t ∧ goR und K.sp p t seen S' = g ∧ MkV K J (H6.put q (.cells (tcl (turnOf (toldR p a n m y))) 6)) S' os' ms' es3' es4' FJ' ∧ ExtX (ftp K os ms FJ) A (H6.put q (.cells (tcl (turnOf (toldR p a n m y))) 6)) ∧
      (∀ b ∈ ftp K os' ms' FJ', (b ∈ ftp K os ms FJ ∨ A.size ≤ b) ∧ b ≠ A.size + 1 ∧ b ≠ A.size + 2 ∧ b ≠ q ∧ (u.nl = false → b ≠ u.b)) ∧ ShopOk K.sp S' ∧ S'.stack = S.stack ∧ Room C K.sp (fuelT t) S' ∧ seen.length + fuelT t ≤ 202 ∧
      q < H6.size ∧ .cells (tcl (turnOf (toldR p a n m y))) 6 = AObj.cells (tcl (turnOf t)) 6 ∧ H6.get (A.size + 1) = .cells [.int .i64 0, .string ByteArray.empty, Sl.nil.v] 3 ∧ Acc A.size (H6.put q (.cells (tcl (turnOf (toldR p a n m y))) 6)) u seen [] ∧ (u.nl = false → u.b < H6.size ∧ u.b ≠ A.size + 1 ∧ u.b ≠ A.size + 2 ∧ u.b ≠ q) ∧
      ∀ a' n' m', t = .look a' n' m' → ∃ s, H6.get (A.size + 2) = .cells (mc cs s m'.pc m'.steps m'.looks a' n') 7 ∧ Stk K.B.size (H6.put q (.cells (tcl (turnOf (toldR p a n m y))) 6)) s m'.st ∧ (s.nl = true ∨ s.b ≠ A.size + 2) ∧ (s.nl = false → A.size ≤ s.b ∧ s.b ∉ ftp K os' ms' FJ' ∧ (u.nl = false → s.b ≠ u.b)) := by
    intro y S3 os3 ms3 es33 es43 FJ3 seen3 u3 H5 H6 c5 hy hgo3 hV3 hX3 hF3 hS3 hst3 hRm3 hsl3 hq5 gq5 gr5 hacc5 hub5 hs5 hsf5 hz6 hg6 hlk6
    have hlk0 := hok2.2.1.looks
    have htk := toldR_ok hok hok2 hy
    have hf : fuelT (toldR p a n m y) + 1 ≤ fuelT (.look a n m) := by
     cases ht : toldR p a n m y with
     | look a' n' m' =>
       have := toldR_looks ht
       show 202 - m'.looks + 1 ≤ 202 - m.looks
       omega
     | fin c t s => show 1 + 1 ≤ 202 - m.looks; omega
     | go m' => show 1 + 1 ≤ 202 - m.looks; omega
    have z5 := hX3.size
    generalize hH7 : H6.put q (.cells (tcl (turnOf (toldR p a n m y))) 6) = H7
    have z7 : H7.size = H6.size := by rw [← hH7]; rfl
    have g7 : H7.get q = .cells (tcl (turnOf (toldR p a n m y))) 6 := by rw [← hH7]; exact AH.gPs _ _ _
    have p7 : ∀ b, b ≠ q → H7.get b = H6.get b := fun b hb => by rw [← hH7]; exact AH.gPo hb
    clear hH7
    have hsd : ∀ b, (s.nl = false → b ≠ s.b) → s.nl = true ∨ b ≠ s.b := fun b hb => by
     cases ho : s.nl
     ·exact .inr (hb ho)
     ·exact .inl rfl
    have o7 : ∀ b, b < H5.size → b ≠ q → b ≠ A.size + 2 → (s.nl = false → b ≠ s.b) → H7.get b = H5.get b := fun b h1 h2 h3 h4 => (p7 b h2).trans (hg6 b h1 h3 (hsd b h4))
    have hsq : s.nl = false → s.b ≠ q := fun hn => by
     rcases stk_ne hs5 (by decide) gq5 with h | h
     ·rw [hn] at h; cases h
     ·exact Ne.symm h
    have hsr : s.nl = false → s.b ≠ A.size + 1 := fun hn => by
     rcases stk_ne hs5 (by decide) gr5 with h | h
     ·rw [hn] at h; cases h
     ·exact Ne.symm h
    have hbd3 := hV3.bound
    refine ⟨fuelT (toldR p a n m y), by omega, toldR p a n m y, S3, os3, ms3, es33, es43, FJ3, seen3, u3, rfl, rfl, htk, hgo3, hV3.frame hJ (by omega) (fun b hb hm => ?_), ⟨by omega, fun b hb hm => (o7 b (by omega) (by omega) (by omega) fun hn => by have := (hsf5 hn).1; omega).trans (hX3.get b hb hm)⟩, hF3, hS3, hst3, hRm3.less (by omega), by omega, by omega, rfl, ((p7 (A.size + 1) (by omega)).symm.trans (o7 (A.size + 1) (by omega) (by omega) (by omega) fun hn => Ne.symm (hsr hn))).trans gr5, hacc5.frame (by omega) (fun x hx hm => ?_), fun hn => by have := hub5 hn; omega, fun a' n' m' ht => ?_⟩
    ·rcases hm with h | h
     ·exact o7 b hb (by omega) (by omega) fun hn => by have := (hsf5 hn).1; omega
     ·exact o7 b hb (hF3 b h).2.2.2.1 (hF3 b h).2.2.1 fun hn e => (hsf5 hn).2.1 (e ▸ h)
    ·rcases hm with ⟨k1, k2, rfl⟩ | h
     ·exact o7 _ hx (hub5 k1).2.2.2 (hub5 k1).2.2.1 fun hn => Ne.symm ((hsf5 hn).2.2 k1)
     ·cases h
    ·obtain ⟨s', q1, q2, q3, q4⟩ := hlk6 a' n' m' ht
     refine ⟨s', q1, q2.frame (by omega) (fun hn => p7 _ ?_), q3, fun hn => ?_⟩
     ·rcases q4 with ⟨q4, q5⟩ | q4
      ·rw [q4]; exact hsq q5
      ·omega
     ·rcases q4 with ⟨q4, q5⟩ | q4
      ·rw [q4]; exact hsf5 q5
      ·exact ⟨by omega, fun hm => by have := (hbd3 _ hm).1; omega, fun hu => by have := (hub5 hu).1; omega⟩
   cases a with
   | false =>
     rw [goR_has hok hok2] at hgo
     simp (disch := first | omega | fail) only [amR Tryz.prog ro X, amS, seval, reduceCtorEq, ty3, ty4, ty9, ty22, ty56, ty58, ty79, ty106, ty122, ty126, ty133, ty157, ty208, e0, e4, e6, e7, e8, gq3]
     refine (Has.has_a H2 (by omega) hV2 n).mono ?_
     rintro R H3 ⟨rfl, hE3⟩
     have z3 := hE3.size
     have gq4 := (hE3.get q hqs).trans gq3
     have hns := name_size hok2.1
     have hfs : (flagS (hasR K.sp n)).size = 1 := flagS_size _
     obtain ⟨u2, H4, hap, hacc4, hg4, hz4, hu4⟩ := (hacc.ext hE3).lit (P := Tryz.prog) (ro := ro) (t := 157) (n := 1) (vs := [.string n, .bool false, .string (flagS (hasR K.sp n))]) (xs := [(n, false, flagS (hasR K.sp n))]) (Gx := []) (by omega) (by simp only [ty157]; rfl) rfl (Reps.one (rep_Seen.2 ⟨rfl, rfl, by show n.size < BIG; unfold BIG; omega, by show (flagS _).size < BIG; unfold BIG; omega⟩)) (.inr (by simp)) (by have := fuelT_le (.look false n m); omega) (by omega)
     rw [show Dat.w TSeen = 3 from rfl] at hap
     simp (disch := first | omega | fail) only [amR Tryz.prog ro X, amS, seval, reduceCtorEq, ty3, ty4, ty9, ty22, ty56, ty58, ty79, ty106, ty122, ty126, ty133, ty157, ty208, e0, e4, e6, e7, e8, gq4]
     refine RunC.mono _ (fun x e' A' (hx : x = .normal ∧ A' = H4 ∧ e' 0 = .pointer (some ⟨K.p, 0, none⟩) ∧ e' 4 = .pointer (some ⟨A.size + 1, 0, none⟩) ∧ e' 6 = .pointer (some ⟨A.size + 2, 0, none⟩) ∧ e' 7 = .pointer (some ⟨q, 0, none⟩) ∧ e' 8 = u2.v ∧ e' 9 = .bool (hasR K.sp n)) => ?_) _ _ ?_
     rotate_left
     ·refine WpH (H3.size) [4] (by kernel_rfl) (.inr (by intro v e A h; simp only [amK, amQ, thenQ, blockQ, endQ, reduceCtorEq, false_and, exists_false] at h)) ?_
      simp (disch := first | omega | fail) only [amX Tryz.prog ro X, amR Tryz.prog ro X, amS, seval, reduceCtorEq, ty3, ty4, ty9, ty22, ty56, ty58, ty79, ty106, ty122, ty126, ty133, ty157, ty208, e0, e4, e6, e7, e8, gq4]
      refine (Mach.digit_a _ _).mono ?_
      rintro R H3' ⟨rfl, rfl⟩
      simp (disch := first | omega | fail) only [amX Tryz.prog ro X, amR Tryz.prog ro X, amS, seval, reduceCtorEq, ty3, ty4, ty9, ty22, ty56, ty58, ty79, ty106, ty122, ty126, ty133, ty157, ty208, e0, e4, e6, e7, e8, gq4, hap]
     obtain ⟨rfl, hA4, x0, x4, x6, x7, x8, x9⟩ := hx
     rw [hA4]
     have hux : ∀ b, A.size ≤ b → (u.nl = false → b ≠ u.b) → b ≠ u.b := fun b h1 h2 => by
      cases ho : u.nl
      ·exact h2 ho
      ·have := hacc.nl_b ho; omega
     have o4 : ∀ b, b < H2.size → (A.size ≤ b → u.nl = false → b ≠ u.b) → H4.get b = H2.get b := fun b h1 h2 => (hg4.get b (by omega) (by
      by_cases h : A.size ≤ b
      ·exact .inr (hux b h (h2 h))
      ·exact .inl (by omega))).trans (hE3.get b h1)
     have hbd2 := hV2.bound
     have hV4 : MkV K J H4 S' os' ms' es3' es4' FJ' := hV2.frame hJ (by omega) fun b hb hm => o4 b hb fun h1 hn => by
      rcases hm with h | h
      ·omega
      ·exact (hF2 b h).2.2.2.2 hn
     have gq4 := (o4 q hqs fun _ hn => Ne.symm (hub hn).2.2.2).trans gq2
     have gr4 := (o4 (A.size + 1) (by omega) fun _ hn => Ne.symm (hub hn).2.1).trans gr2
     have gm4 := (o4 (A.size + 2) (by omega) fun _ hn => Ne.symm (hub hn).2.2.1).trans gm2
     have hs4 : Stk K.B.size H4 s m.st := hs.frame (by omega) fun hn => o4 _ (by
      rcases hs with ⟨rfl, _⟩ | ⟨_, _, h, _⟩
      ·cases hn
      ·exact h) fun _ hu => (hsf hn).2.2 hu
     have hsb : s.nl = false → s.b < H2.size := fun hn => by
      rcases hs with ⟨rfl, _⟩ | ⟨_, _, h, _⟩
      ·cases hn
      ·exact h
     have hu2 : u2.nl = false → (u2.b = u.b ∧ u.nl = false) ∨ H3.size < u2.b := fun hn => by
      rcases hu4 with ⟨k1, k2⟩ | ⟨k1, _⟩
      ·exact .inl ⟨k2, k1 ▸ hn⟩
      ·exact .inr k1
     have hu2b : u2.nl = false → u2.b < H4.size := fun hn => (hacc4.lt (List.append_ne_nil_of_right_ne_nil _ (by simp))).2.2
     simp (disch := first | omega | fail) only [amR Tryz.prog ro X, amS, seval, reduceCtorEq, ty3, ty4, ty9, ty22, ty56, ty58, ty79, ty106, ty122, ty126, ty133, ty157, ty208, x0, x4, x6, x7, x8, x9]
     refine (Turn.told_b K.B H4 hB hV4.k.base hT hP (A.size + 2) (by omega) (by omega) cs p F hc hok m hok2.2.1 hok2.2.2 s hs4 hsp false n gm4 (hasR K.sp n, 0, ⟨#[]⟩) (by show 0 ≤ 2000; omega)).mono ?_
     rintro R H6 ⟨rfl, hE6, hz6, hg6, hlk6⟩
     have gq6 := (hg6 q (by omega) (by omega) (stk_ne hs4 (by decide) gq4)).trans gq4
     unfold tcl at gq6
     simp (disch := first | omega | fail) only [amR Tryz.prog ro X, amS, seval, reduceCtorEq, ty3, ty4, ty9, ty22, ty56, ty58, ty79, ty106, ty122, ty126, ty133, ty157, ty208, x0, x4, x6, x7, x8, x9, tc, gq6]
     refine step (hasR K.sp n, 0, ⟨#[]⟩) S' os' ms' es3' es4' FJ' (seen ++ [(n, false, flagS (hasR K.sp n))]) u2 H4 H6 _ (by show 0 ≤ 2000; omega) hgo hV4 ⟨by omega, fun b hb hm => (o4 b (by omega) fun h1 hn => by omega).trans (hX2.get b hb hm)⟩ (fun b hb => ?_) hS2 hst2 (hRm2.less (by omega)) (by have hlk0 := hok2.2.1.looks; have hfu : fuelT (.look false n m) = 202 - m.looks := rfl; rw [List.length_append]; simp only [List.length_cons, List.length_nil]; omega) (by omega) gq4 gr4 hacc4 (fun hn => ?_) hs4 (fun hn => ?_) hz6 hg6 hlk6
     ·obtain ⟨k1, k2, k3, k4, k5⟩ := hF2 b hb
      refine ⟨k1, k2, k3, k4, fun hn => ?_⟩
      have := (hbd2 b hb).1
      rcases hu2 hn with ⟨w1, w2⟩ | w
      ·rw [w1]; exact k5 w2
      ·omega
     ·have := hu2b hn
      rcases hu2 hn with ⟨w1, w2⟩ | w
      ·have := hub w2; omega
      ·omega
     ·obtain ⟨k1, k2, k3⟩ := hsf hn
      have := hsb hn
      refine ⟨k1, k2, fun hu' => ?_⟩
      rcases hu2 hu' with ⟨w1, w2⟩ | w
      ·rw [w1]; exact k3 w2
      ·omega
   | true =>
     simp (disch := first | omega | fail) only [amR Tryz.prog ro X, amS, seval, reduceCtorEq, ty3, ty4, ty9, ty22, ty56, ty58, ty79, ty106, ty122, ty126, ty133, ty157, ty208, e0, e4, e6, e7, e8, gq3]
     have hw := hu.went S' n hS2 hok2.1
     have hstk := hu.stack S' n
     have hlk0 := hok2.2.1.looks
     have hfu : fuelT (.look true n m) = 202 - m.looks := rfl
     refine (hU H2 S' os' ms' es3' es4' FJ' n (by omega) hV2 hS2 hok2.1 (hRm2.less (by omega)) (by rw [hst2]; exact hd)).mono ?_
     generalize hgu : und S' n = g2 at hw hstk ⊢
     obtain ⟨S3, res⟩ := g2
     rintro R H3 ⟨⟨os3, ms3, es33, es43, FJ3, v3, x3, y3⟩, hR⟩
     replace v3 : MkV K J H3 S3 os3 ms3 es33 es43 FJ3 := v3
     have z3 := x3.size
     have hbd2 := hV2.bound
     have hX3 : ExtX (ftp K os ms FJ) A H3 := hX2.comp x3 fun b hb => (hF2 b hb).1
     have hF3 : ∀ b ∈ ftp K os3 ms3 FJ3, (b ∈ ftp K os ms FJ ∨ A.size ≤ b) ∧ b ≠ A.size + 1 ∧ b ≠ A.size + 2 ∧ b ≠ q ∧ (u.nl = false → b ≠ u.b) := fun b hb => by
      rcases y3 b hb with h | h
      ·exact hF2 b h
      ·exact ⟨.inr (by omega), by omega, by omega, by omega, fun hn => by have := (hub hn).1; omega⟩
     cases res with
     | error e =>
       obtain ⟨v, rfl, hv⟩ := hR
       rw [goR_err hok2 hgu] at hgo
       subst hgo
       simp (disch := first | omega | fail) only [amR Tryz.prog ro X, amS, seval, reduceCtorEq, ty3, ty4, ty9, ty22, ty56, ty58, ty79, ty106, ty122, ty126, ty133, ty157, ty208]
       exact ⟨os3, ms3, es33, es43, FJ3, v3, hX3, fun b hb => (hF3 b hb).1, v, rfl, hv⟩
     | ok x =>
     obtain rfl : R = .ret (madeV x) := hR
     obtain ⟨hst3, hx1, hx2, hx3⟩ := hstk x hS2 hok2.1 rfl
     rw [goR_ask hok hok2 hgu hx3] at hgo
     have hRm3 : Room C K.sp (fuelT (.look true n m) - 1) S3 := (hRm2.less (k := 1 + (fuelT (.look true n m) - 1)) (by omega)).went hw
     have hlow : ∀ b, b < H2.size → b ∉ ftp K os' ms' FJ' → H3.get b = H2.get b := fun b h1 h2 => x3.get b h1 h2
     have gq5 := (hlow q hqs fun hm => (hF2 _ hm).2.2.2.1 rfl).trans gq3
     simp only [madeV]
     simp (disch := first | omega | fail) only [amR Tryz.prog ro X, amS, seval, reduceCtorEq, ty3, ty4, ty9, ty22, ty56, ty58, ty79, ty106, ty122, ty126, ty133, ty157, ty208, e0, e4, e6, e7, e8, gq5]
     have hns := name_size hok2.1
     have hsb : s.nl = false → s.b < H2.size := fun hn => by
      rcases hs with ⟨rfl, _⟩ | ⟨_, _, h, _⟩
      ·cases hn
      ·exact h
     have gr5 := (hlow (A.size + 1) (by omega) fun hm => (hF2 _ hm).2.1 rfl).trans gr2
     have gm5 := (hlow (A.size + 2) (by omega) fun hm => (hF2 _ hm).2.2.1 rfl).trans gm2
     have hs3 : Stk K.B.size H3 s m.st := hs.frame z3 fun hn => hlow _ (hsb hn) (hsf hn).2.1
     have hsf3 : s.nl = false → s.b ∉ ftp K os3 ms3 FJ3 := fun hn hm => by
      rcases y3 _ hm with h | h
      ·exact (hsf hn).2.1 h
      ·have := hsb hn; omega
     have hacc3 : Acc A.size H3 u seen [] := hacc.frame z3 fun b hb hm => by
      rcases hm with ⟨k1, k2, rfl⟩ | h
      ·exact hlow _ hb fun hm => (hF2 _ hm).2.2.2.2 k1 rfl
      ·cases h
     generalize hH4 : AH.put (H3.new _) H3.size _ = H4
     have z4 : H4.size = H3.size + 1 := by rw [← hH4]; rfl
     have hE4 : Ext H3 H4 := by rw [← hH4]; exact (by ((repeat' (first | exact Ext.refl _ | assumption | refine Ext.trans ?_ (Ext.new _ _) | refine Ext.put ?_ ?_ _ | refine Ext.trans ?_ (by assumption))) <;> (first | omega | (simp only [AH.zN, AH.zP] <;> omega))))
     have gx4 : H4.get H3.size = .cells [.int .i64 x.1, .string x.2, Sl.nil.v] 3 := by rw [← hH4]; exact AH.gPs _ _ _
     clear hH4
     refine (Form.implForm_a H4 (by omega) x.1 x.2 .nil [] [] (.nil rfl rfl rfl) (by omega)).mono ?_
     rintro R H5 ⟨rfl, hE5⟩
     have z5 := hE5.size
     have hE35 := hE4.trans hE5
     have hfz : (formR x.1 x.2 []).size < BIG := by have := formR_size x.1 x.2 []; unfold BIG; omega
     obtain ⟨u2, H6, hap, hacc6, hg6, hz6, hu6⟩ := (hacc3.ext hE35).lit (P := Tryz.prog) (ro := ro) (t := 157) (n := 1) (vs := [.string n, .bool true, .string (formR x.1 x.2 [])]) (xs := [(n, true, formR x.1 x.2 [])]) (Gx := []) (by omega) (by simp only [ty157]; rfl) rfl (Reps.one (rep_Seen.2 ⟨rfl, rfl, by show n.size < BIG; unfold BIG; omega, hfz⟩)) (.inr (by simp)) (by omega) (by omega)
     rw [show Dat.w TSeen = 3 from rfl] at hap
     simp (disch := first | omega | fail) only [amR Tryz.prog ro X, amS, seval, reduceCtorEq, ty3, ty4, ty9, ty22, ty56, ty58, ty79, ty106, ty122, ty126, ty133, ty157, ty208, e0, e4, e6, e7, e8, hap]
     have hux : ∀ b, A.size ≤ b → (u.nl = false → b ≠ u.b) → b ≠ u.b := fun b h1 h2 => by
      cases ho : u.nl
      ·exact h2 ho
      ·have := hacc.nl_b ho; omega
     have o56 : ∀ b, b < H5.size → (A.size ≤ b → u.nl = false → b ≠ u.b) → H6.get b = H5.get b := fun b h1 h2 => hg6.get b h1 (by
      by_cases h : A.size ≤ b
      ·exact .inr (hux b h (h2 h))
      ·exact .inl (by omega))
     have o6 : ∀ b, b < H3.size → (A.size ≤ b → u.nl = false → b ≠ u.b) → H6.get b = H3.get b := fun b h1 h2 => (o56 b (by omega) h2).trans (hE35.get b h1)
     have hV6 : MkV K J H6 S3 os3 ms3 es33 es43 FJ3 := v3.frame hJ (by omega) fun b hb hm => o6 b hb fun h1 hn => by
      rcases hm with h | h
      ·omega
      ·exact (hF3 b h).2.2.2.2 hn
     have gx6 := (o56 H3.size (by omega) fun _ hn => by have := (hub hn).1; omega).trans ((hE5.get H3.size (by omega)).trans gx4)
     have gq6 := (o6 q (by omega) fun _ hn => Ne.symm (hub hn).2.2.2).trans gq5
     have gr6 := (o6 (A.size + 1) (by omega) fun _ hn => Ne.symm (hub hn).2.1).trans gr5
     have gm6 := (o6 (A.size + 2) (by omega) fun _ hn => Ne.symm (hub hn).2.2.1).trans gm5
     have hs6 : Stk K.B.size H6 s m.st := hs3.frame (by omega) fun hn => o6 _ (by have := hsb hn; omega) fun _ hu => (hsf hn).2.2 hu
     have hu2 : u2.nl = false → (u2.b = u.b ∧ u.nl = false) ∨ H5.size < u2.b := fun hn => by
      rcases hu6 with ⟨k1, k2⟩ | ⟨k1, _⟩
      ·exact .inl ⟨k2, k1 ▸ hn⟩
      ·exact .inr k1
     have hu2b : u2.nl = false → u2.b < H6.size := fun hn => (hacc6.lt (List.append_ne_nil_of_right_ne_nil _ (by simp))).2.2
     refine norm ?_
     refine WpH (H6.size) [3] (by kernel_rfl) (.inr (by intro v e A h; simp only [amK, amQ, thenQ, blockQ, endQ, reduceCtorEq, false_and, exists_false] at h)) ?_
     simp (disch := first | omega | fail) only [amX Tryz.prog ro X, amR Tryz.prog ro X, amS, seval, reduceCtorEq, ty3, ty4, ty9, ty22, ty56, ty58, ty79, ty106, ty122, ty126, ty133, ty157, ty208, e0, e4, e6, e7, e8, gx6]
     refine (Has.has_a H6 (by omega) hV6 n).mono ?_
     rintro R H7 ⟨rfl, hE7⟩
     have z7 := hE7.size
     have gx7 := (hE7.get H3.size (by omega)).trans gx6
     simp (disch := first | omega | fail) only [amX Tryz.prog ro X, amR Tryz.prog ro X, amS, seval, reduceCtorEq, ty3, ty4, ty9, ty22, ty56, ty58, ty79, ty106, ty122, ty126, ty133, ty157, ty208, e0, e4, e6, e7, e8, gx6, gx7]
     refine ⟨fun b hb => hE7.get b hb, ?_⟩
     have hV7 := hV6.ext hJ hE7
     have hs7 := hs6.ext hE7
     have gq7 := (hE7.get q (by omega)).trans gq6
     have gr7 := (hE7.get (A.size + 1) (by omega)).trans gr6
     have gm7 := (hE7.get (A.size + 2) (by omega)).trans gm6
     have hacc7 := hacc6.ext hE7
     refine (Turn.told_b K.B H7 hB hV7.k.base hT hP (A.size + 2) (by omega) (by omega) cs p F hc hok m hok2.2.1 hok2.2.2 s hs7 hsp true n gm7 (hasR K.sp n, x.1, x.2) hx3).mono ?_
     rintro R H8 ⟨rfl, hE8, hz8, hg8, hlk8⟩
     have gq8 := (hg8 q (by omega) (by omega) (stk_ne hs7 (by decide) gq7)).trans gq7
     simp (disch := first | omega | fail) only [amX Tryz.prog ro X, amR Tryz.prog ro X, amS, seval, reduceCtorEq, ty3, ty4, ty9, ty22, ty56, ty58, ty79, ty106, ty122, ty126, ty133, ty157, ty208, e0, e4, e6, e7, e8, tc, gq8]
     refine step (hasR K.sp n, x.1, x.2) S3 os3 ms3 es33 es43 FJ3 (seen ++ [(n, true, formR x.1 x.2 [])]) u2 H7 H8 _ hx3 hgo hV7 ⟨by omega, fun b hb hm => (hE7.get b (by omega)).trans ((o6 b (by omega) fun h1 hn => by omega).trans (hX3.get b hb hm))⟩ (fun b hb => ?_) hw.ok (hst3.trans hst2) hRm3 (by rw [List.length_append]; simp only [List.length_cons, List.length_nil]; omega) (by omega) gq7 gr7 hacc7 (fun hn => ?_) hs7 (fun hn => ?_) hz8 hg8 hlk8
     ·obtain ⟨k1, k2, k3, k4, k5⟩ := hF3 b hb
      refine ⟨k1, k2, k3, k4, fun hn => ?_⟩
      have := (v3.bound b hb).1
      rcases hu2 hn with ⟨w1, w2⟩ | w
      ·rw [w1]; exact k5 w2
      ·omega
     ·have := hu2b hn
      rcases hu2 hn with ⟨w1, w2⟩ | w
      ·have := hub w2; omega
      ·omega
     ·obtain ⟨k1, k2, k3⟩ := hsf hn
      have := hsb hn
      refine ⟨k1, hsf3 hn, fun hu' => ?_⟩
      rcases hu2 hu' with ⟨w1, w2⟩ | w
      ·rw [w1]; exact k3 w2
      ·omega
end Go.Proofs.YtmelgjblkmbhjaaGreatDoor.Amu.MRun
