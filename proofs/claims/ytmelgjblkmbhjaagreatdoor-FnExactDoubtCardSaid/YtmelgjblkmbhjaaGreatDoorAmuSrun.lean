import Derived.Test.YtmelgjblkmbhjaaGreatDoorAmuTy
import Derived.Test.YtmelgjblkmbhjaaGreatDoorAmSpk
import Derived.Test.YtmelgjblkmbhjaaGreatDoorAmuProg
import Derived.Test.YtmelgjblkmbhjaaGreatDoorAmuSmk
import Derived.Test.YtmelgjblkmbhjaaGreatDoorAmuSpecN
import Derived.Test.YtmelgjblkmbhjaaGreatDoorAmuSpecM
import Derived.Test.YtmelgjblkmbhjaaGreatDoorAmuForm
namespace Go.Proofs.YtmelgjblkmbhjaaGreatDoor.Amu.Srun
open Go Go.AM Go.Proofs
set_option linter.all false
open Ty
variable {ro : Nat} {X : FuncId → List Value → AH → ARes → AH → Prop}
set_option maxRecDepth 10000
open Mach (tc)
set_option maxHeartbeats 4000000 in
theorem srun_a {K : Skc} {d : Nat} {und : Under (List (ByteArray × List TSeen))} (hB : ro ≤ K.B.size) (hl1 : K.sp.1.length ≤ 200) (hl2 : K.sp.2.length ≤ 200) (hu : UndOk K.sp 202 und) (hg : UndG K.sp und)
 (hM : SMakeC Tryz.prog ro X 138 K d und) : SRunC Tryz.prog ro X 172 K d und := by
 intro A S md st G p cs F hro hV hI hS hok hc hRm hd
 have hftp := hV.bound
 have hbs := hV.base.size
 generalize hG : goR und K.sp p (startR p) [] S = g
 refine ACalls.enterQ (rs := [.cell 4 79, .tmp 5]) Tryz.func172 rfl (by kernel_rfl) rfl ?_
 simp (maxSteps := 2000000) (disch := first | omega | (simp only [AH.zN, AH.zP] <;> omega) | fail) only [amR Tryz.prog ro X, amS, seval, reduceCtorEq, ty3, ty4, ty9, ty22, ty45, ty56, ty58, ty79, ty120, ty122, ty126, ty154, ty156, ty157, ty208]
 generalize hH : AH.new (AH.new (AH.new (A.new _) _) _) _ = H
 have zH : H.size = A.size + 4 := by rw [← hH]; rfl
 have hEH : Ext A H := by rw [← hH]; exact (by ((repeat' (first | exact Ext.refl _ | assumption | refine Ext.trans ?_ (Ext.new _ _) | refine Ext.put ?_ ?_ _ | refine Ext.trans ?_ (by assumption))) <;> (first | omega | (simp only [AH.zN, AH.zP] <;> omega))))
 have gc : H.get A.size = .cells [cs.v] 1 := by rw [← hH]; simp (maxSteps := 2000000) (disch := first | omega | (simp only [AH.zN, AH.zP] <;> omega) | fail) only [amV, amH, amQ, amL, amN Tryz.prog, amS, seval, reduceCtorEq, ty3, ty4, ty9, ty22, ty45, ty56, ty58, ty79, ty120, ty122, ty126, ty154, ty156, ty157, ty208]
 have gr : H.get (A.size + 1) = .cells [.int .i64 0, .string ByteArray.empty, Sl.nil.v] 3 := by rw [← hH]; simp (maxSteps := 2000000) (disch := first | omega | (simp only [AH.zN, AH.zP] <;> omega) | fail) only [amV, amH, amQ, amL, amN Tryz.prog, amS, seval, reduceCtorEq, ty3, ty4, ty9, ty22, ty45, ty56, ty58, ty79, ty120, ty122, ty126, ty154, ty156, ty157, ty208]
 clear hH
 have hp200 : p.length ≤ 200 := hok.2.1
 refine Wp.loopC (fun k e H2 => e 0 = .pointer (some ⟨K.p, 0, none⟩) ∧ e 3 = .pointer (some ⟨A.size, 0, none⟩) ∧ e 4 = .pointer (some ⟨A.size + 1, 0, none⟩) ∧
  ∃ (t : Tick) (l : List TReply) (S' : CSh) (md' st' : Sl) (G' : List Nat) (seen : List TSeen) (u v : Sl), e 6 = u.v ∧ e 7 = v.v ∧ k = fuelT t ∧ TickOk t ∧ playR p (startR p) l = t ∧ goR und K.sp p t seen S' = g ∧ SpV K H2 S' md' st' G' x0R .nil false ∧ ExtX (ftpS K md st G) A H2 ∧
    (∀ b ∈ ftpS K md' st' G', (b ∈ ftpS K md st G ∨ A.size ≤ b) ∧ b ≠ A.size ∧ b ≠ A.size + 1 ∧ b ≠ u.b ∧ b ≠ v.b) ∧ InvS K.sp S' ∧ ShopOk K.sp S' ∧ S'.stack = S.stack ∧ Room 202 K.sp (fuelT t) S' ∧ seen.length + fuelT t ≤ 202 ∧
    l.length ≤ 200 ∧ (∀ a n m, t = .look a n m → l.length < m.looks) ∧ (∀ r ∈ l, ¬ replyBad r) ∧
    A.size + 1 < H2.size ∧ H2.get A.size = .cells [cs.v] 1 ∧ H2.get (A.size + 1) = .cells [.int .i64 0, .string ByteArray.empty, Sl.nil.v] 3 ∧ Acc A.size H2 u l [] ∧ Acc A.size H2 v seen [] ∧
    (A.size + 1 < u.b ∧ u.b < H2.size) ∧ (A.size + 1 < v.b ∧ v.b < H2.size) ∧ u.b ≠ v.b) (fuelT (startR p)) ?_ ?_
 ·simp (maxSteps := 2000000) (disch := first | omega | (simp only [AH.zN, AH.zP] <;> omega) | fail) only [amV, amH, amQ, amL, amN Tryz.prog, amS, seval, reduceCtorEq, ty3, ty4, ty9, ty22, ty45, ty56, ty58, ty79, ty120, ty122, ty126, ty154, ty156, ty157, ty208]
  refine ⟨startR p, [], S, md, st, G, [], ⟨false, A.size + 1 + 1, 0, 0, 0⟩, ⟨false, A.size + 1 + 1 + 1, 0, 0, 0⟩, rfl, rfl, rfl, startR_ok hok, playR_nil _ _, hG, hV.ext hEH, hEH.x _, fun b hb => ?_, hI, hS, rfl, hRm.less (fuelT_le _), by have := fuelT_le (startR p); simpa using this, by simp, fun a n m h => by rw [startR_looks h]; simp, by simp, by omega, gc, gr, .empty _ _, .empty _ _, ⟨by simp only; omega, by simp only; omega⟩, ⟨by simp only; omega, by simp only; omega⟩, by simp only; omega⟩
  have := (hftp b hb).2
  exact ⟨.inl hb, by omega, by omega, by simp only; omega, by simp only; omega⟩
 rintro k e H2 ⟨e0, e3, e4, t, l, S', md', st', G', seen, u, v, e6, e7, rfl, hok2, hpl, hgo, hV2, hX2, hF2, hI2, hS2, hst2, hRm2, hsl, hl200, hlk, hnb, hz2, gc2, gr2, hau, hav, ⟨hu1, hu2⟩, ⟨hv1, hv2⟩, huv⟩
 have z2 := hX2.size
 obtain ⟨Fu, hus, hFu⟩ := hau.slr
 have hnx : nextR p l = turnOf t := by rw [nextR_play hok hl200 hnb, hpl]
 have hbd2 := hV2.bound
 simp (disch := first | omega | fail) only [amR Tryz.prog ro X, amS, seval, reduceCtorEq, ty3, ty4, ty9, ty22, ty45, ty56, ty58, ty79, ty120, ty122, ty126, ty154, ty156, ty157, ty208, e0, e3, e4, e6, e7, gc2]
 refine (SpecN.next_a H2 (by omega) cs p F (hc.ext hV2.base) (by omega) u l Fu hus (by omega)).mono ?_
 rintro r H3 ⟨rfl, hE3⟩
 have z3 := hE3.size
 have gc3 := (hE3.get A.size (by omega)).trans gc2
 have gr3 := (hE3.get (A.size + 1) (by omega)).trans gr2
 rw [hnx]
 cases t with
 | go m => exact hok2.elim
 | fin c tx stp =>
   simp only [turnOf, tc]
   simp (disch := first | omega | fail) only [amR Tryz.prog ro X, amS, seval, reduceCtorEq, ty3, ty4, ty9, ty22, ty45, ty56, ty58, ty79, ty120, ty122, ty126, ty154, ty156, ty157, ty208, e0, e3, e4, e6, e7, gc3, gr3]
   rw [goR_fin] at hgo
   subst hgo
   generalize hH4 : AH.put (H3.new _) H3.size _ = H4
   have z4 : H4.size = H3.size + 1 := by rw [← hH4]; rfl
   have hE4 : Ext H3 H4 := by rw [← hH4]; exact (by ((repeat' (first | exact Ext.refl _ | assumption | refine Ext.trans ?_ (Ext.new _ _) | refine Ext.put ?_ ?_ _ | refine Ext.trans ?_ (by assumption))) <;> (first | omega | (simp only [AH.zN, AH.zP] <;> omega))))
   clear hH4
   have hE24 := hE3.trans hE4
   have hX5 : ExtX [A.size + 1] H4 (H4.put (A.size + 1) (.cells [.int .i64 c, .string tx, Sl.nil.v] 3)) := (ExtX.refl _ _).put (by simp) _
   obtain ⟨Fl, l1, l2, l3, l4⟩ := (hav.ext hE24).foot (fun b hb => by cases hb) List.nodup_nil
   have hvl : ∀ b ∈ Fl, A.size ≤ b ∧ b = v.b := fun b hb => by
    rcases l4 b hb with ⟨k1, rfl⟩ | h
    ·exact ⟨l3 _ hb, rfl⟩
    ·cases h
   refine ⟨v, Fl, md', st', G', rfl, l1.extx hX5 (fun b hb => ?_), (hV2.ext hE24).extx hX5 (fun b hb => ?_), ?_, fun b hb => (hF2 b hb).1, fun b hb => ?_⟩
   ·obtain ⟨k1, rfl⟩ := hvl b hb
    simp only [List.mem_singleton]; omega
   ·rw [List.mem_singleton.1 hb]
    exact ⟨by omega, fun hm => (hF2 _ hm).2.2.1 rfl⟩
   ·exact ⟨by simp only [AH.zP]; omega, fun b hb hm => (AH.gPo (by omega)).trans ((hE24.get b (by omega)).trans (hX2.get b hb hm))⟩
   ·obtain ⟨k1, rfl⟩ := hvl b hb
    refine ⟨k1, fun hm => (hF2 _ hm).2.2.2.2 rfl, ?_⟩
    have hlb := l1.bound _ hb
    obtain ⟨c', hc'⟩ := l1.rows nofoot_Seen _ hb
    exact ⟨c', (AH.gPo (by omega)).trans hc'⟩
 | look a n m =>
   have hlk0 := hok2.2.1.looks
   have hfu : fuelT (.look a n m) = 202 - m.looks := rfl
   have hlm := hlk a n m rfl
   have hns := name_size hok2.1
   have step : ∀ (y : TReply) (S3 : CSh) (md3 st3 : Sl) (G3 : List Nat) (seen3 : List TSeen) (u3 v3 : Sl) (H5 H6 : AH), y.2.2.size ≤ 2000 → ¬ replyBad y → goR und K.sp p (toldR p a n m y) seen3 S3 = g → SpV K H5 S3 md3 st3 G3 x0R .nil false → ExtX (ftpS K md st G) A H5 →
    (∀ b ∈ ftpS K md3 st3 G3, (b ∈ ftpS K md st G ∨ A.size ≤ b) ∧ b ≠ A.size ∧ b ≠ A.size + 1 ∧ b ≠ u.b ∧ b ≠ v.b) → InvS K.sp S3 → ShopOk K.sp S3 → S3.stack = S.stack → Room 202 K.sp (fuelT (.look a n m) - 1) S3 → seen3.length ≤ seen.length + 1 →
    H2.size ≤ H5.size → H5.get A.size = .cells [cs.v] 1 → H5.get (A.size + 1) = .cells [.int .i64 0, .string ByteArray.empty, Sl.nil.v] 3 → H5.size ≤ H6.size → (∀ b, b < H5.size → b ≠ u.b → b ≠ v.b → H6.get b = H5.get b) → Acc A.size H6 u3 (l ++ [y]) [] → Acc A.size H6 v3 seen3 [] →
    u3.b < H6.size → (u3.b = u.b ∨ H5.size ≤ u3.b) → v3.b < H6.size → (v3.b = v.b ∨ H5.size ≤ v3.b) → u3.b ≠ v3.b →
    ∃ k, k < fuelT (.look a n m) ∧ ∃ (t : Tick) (l : List TReply) (S' : CSh) (md' st' : Sl) (G' : List Nat) (seen : List TSeen) (u v : Sl), u3.v = u.v ∧ v3.v = v.v ∧ k = fuelT t ∧ TickOk t ∧ playR p (startR p) l = t ∧ goR und K.sp p t seen S' = g ∧ SpV K H6 S' md' st' G' x0R .nil false ∧ ExtX (ftpS K md st G) A H6 ∧
      (∀ b ∈ ftpS K md' st' G', (b ∈ ftpS K md st G ∨ A.size ≤ b) ∧ ¬ b = A.size ∧ ¬ b = A.size + 1 ∧ ¬ b = u.b ∧ ¬ b = v.b) ∧ InvS K.sp S' ∧ ShopOk K.sp S' ∧ S'.stack = S.stack ∧ Room 202 K.sp (fuelT t) S' ∧ seen.length + fuelT t ≤ 202 ∧
      l.length ≤ 200 ∧ (∀ a n m, t = .look a n m → l.length < m.looks) ∧ (∀ r ∈ l, ¬ replyBad r) ∧
      A.size + 1 < H6.size ∧ H6.get A.size = .cells [cs.v] 1 ∧ H6.get (A.size + 1) = .cells [.int .i64 0, .string ByteArray.empty, Sl.nil.v] 3 ∧ Acc A.size H6 u l [] ∧ Acc A.size H6 v seen [] ∧
      (A.size + 1 < u.b ∧ u.b < H6.size) ∧ (A.size + 1 < v.b ∧ v.b < H6.size) ∧ ¬ u.b = v.b := by
    intro y S3 md3 st3 G3 seen3 u3 v3 H5 H6 hy hyb hgo3 hV3 hX3 hF3 hI3 hS3 hst3 hRm3 hsl3 hz5 gc5 gr5 hz6 fr hau3 hav3 hu3 hu3' hv3 hv3' huv3
    have htk := toldR_ok hok hok2 hy
    have hf : fuelT (toldR p a n m y) + 1 ≤ fuelT (.look a n m) := by
     cases ht : toldR p a n m y with
     | look a' n' m' =>
       have := toldR_looks ht
       show 202 - m'.looks + 1 ≤ 202 - m.looks
       omega
     | fin c t s => show 1 + 1 ≤ 202 - m.looks; omega
     | go m' => show 1 + 1 ≤ 202 - m.looks; omega
    have hbd3 := hV3.bound
    refine ⟨fuelT (toldR p a n m y), by omega, toldR p a n m y, l ++ [y], S3, md3, st3, G3, seen3, u3, v3, rfl, rfl, rfl, htk, playR_snoc hpl y, hgo3, hV3.frame hz6 (fun b hb hm => ?_), ⟨by have := hX3.size; omega, fun b hb hm => (fr b (by omega) (by omega) (by omega)).trans (hX3.get b hb hm)⟩, fun b hb => ?_, hI3, hS3, hst3, hRm3.less (by omega), by omega, by rw [List.length_append]; simp only [List.length_cons, List.length_nil]; omega, fun a' n' m' h => ?_, fun r hr => ?_, by omega, (fr _ (by omega) (by omega) (by omega)).trans gc5, (fr _ (by omega) (by omega) (by omega)).trans gr5, hau3, hav3, ⟨by omega, hu3⟩, ⟨by omega, hv3⟩, huv3⟩
    ·rcases hm with h | h
     ·exact fr b hb (by omega) (by omega)
     ·exact fr b hb (hF3 b h).2.2.2.1 (hF3 b h).2.2.2.2
    ·obtain ⟨k1, k2, k3, k4, k5⟩ := hF3 b hb
     have := (hbd3 b hb).2
     exact ⟨k1, k2, k3, by omega, by omega⟩
    ·rw [toldR_looks h, List.length_append]; simp only [List.length_cons, List.length_nil]; omega
    ·rcases List.mem_append.1 hr with hr | hr
     ·exact hnb r hr
     ·rw [List.mem_singleton.1 hr]; exact hyb
   simp only [turnOf, tc]
   cases a with
   | false =>
     rw [goR_has hok hok2] at hgo
     simp (disch := first | omega | fail) only [amR Tryz.prog ro X, amS, seval, reduceCtorEq, ty3, ty4, ty9, ty22, ty45, ty56, ty58, ty79, ty120, ty122, ty126, ty154, ty156, ty157, ty208, e0, e3, e4, e6, e7, gc3, gr3]
     generalize hHt : AH.put (H3.new _) H3.size _ = Ht
     have zt : Ht.size = H3.size + 1 := by rw [← hHt]; rfl
     have hEt : Ext H3 Ht := by rw [← hHt]; exact (by ((repeat' (first | exact Ext.refl _ | assumption | refine Ext.trans ?_ (Ext.new _ _) | refine Ext.put ?_ ?_ _ | refine Ext.trans ?_ (by assumption))) <;> (first | omega | (simp only [AH.zN, AH.zP] <;> omega))))
     have gt : Ht.get H3.size = .cells [.bool false, .int .i64 0, .string ⟨#[]⟩, .bool false, .string n, .int .i64 m.steps] 6 := by rw [← hHt]; exact AH.gPs _ _ _
     clear hHt
     have hE2t := hE3.trans hEt
     refine (Smk.has_a (hV2.ext hE2t) (by omega) hl1 hl2 n).mono ?_
     rintro R H4 ⟨rfl, hE4⟩
     have z4 := hE4.size
     have hE24 := hE2t.trans hE4
     have gt4 := (hE4.get H3.size (by omega)).trans gt
     obtain ⟨u5, H5, hap5, hau5, hg5, hz5, hu5⟩ := (hau.ext hE24).lit (P := Tryz.prog) (ro := ro) (t := 120) (n := 1) (vs := [.bool (hasR K.sp n), .int .i64 0, .string ByteArray.empty]) (xs := [(hasR K.sp n, 0, ⟨#[]⟩)]) (Gx := []) (by omega) (by simp only [ty120]; rfl) rfl (Reps.one (rep_Reply.2 ⟨rfl, rfl, by show 0 < BIG; unfold BIG; omega⟩)) (.inr (by simp)) (by omega) (by omega)
     rw [show Dat.w TReply = 3 from rfl] at hap5
     simp (disch := first | omega | fail) only [amR Tryz.prog ro X, amS, seval, reduceCtorEq, ty3, ty4, ty9, ty22, ty45, ty56, ty58, ty79, ty120, ty122, ty126, ty154, ty156, ty157, ty208, e0, e3, e4, e6, e7, gt4, hap5]
     have hub5 : A.size + 1 < u5.b ∧ u5.b < H5.size ∧ (u5.b = u.b ∨ H4.size < u5.b) := by
      have := (hau5.lt (List.append_ne_nil_of_right_ne_nil _ (by simp))).2.2
      rcases hu5 with ⟨_, k⟩ | ⟨k, _⟩
      ·exact ⟨by omega, this, .inl k⟩
      ·exact ⟨by omega, this, .inr k⟩
     have o5 : ∀ b, b < H4.size → b ≠ u.b → H5.get b = H4.get b := fun b h1 h2 => hg5.get b h1 (.inr h2)
     have gt5 := (o5 H3.size (by omega) (by omega)).trans gt4
     have hav5 : Acc A.size H5 v seen [] := (hav.ext hE24).frame (by omega) fun b hb hm => by
      rcases hm with ⟨k1, k2, rfl⟩ | h
      ·exact o5 _ hb (Ne.symm huv)
      ·cases h
     have hfs : (flagS (hasR K.sp n)).size = 1 := flagS_size _
     obtain ⟨v6, H6, hap6, hav6, hg6, hz6, hv6⟩ := hav5.lit (P := Tryz.prog) (ro := ro) (t := 157) (n := 1) (vs := [.string n, .bool false, .string (flagS (hasR K.sp n))]) (xs := [(n, false, flagS (hasR K.sp n))]) (Gx := []) (by omega) (by simp only [ty157]; rfl) rfl (Reps.one (rep_Seen.2 ⟨rfl, rfl, by show n.size < BIG; unfold BIG; omega, by show (flagS _).size < BIG; unfold BIG; omega⟩)) (.inr (by simp)) (by omega) (by omega)
     rw [show Dat.w TSeen = 3 from rfl] at hap6
     refine RunC.norm ?_
     refine WpH (H5.size) [4] (by kernel_rfl) (.inr (by intro v e A h; simp only [amK, amQ, thenQ, blockQ, endQ, reduceCtorEq, false_and, exists_false] at h)) ?_
     simp (disch := first | omega | fail) only [amX Tryz.prog ro X, amR Tryz.prog ro X, amS, seval, reduceCtorEq, ty3, ty4, ty9, ty22, ty45, ty56, ty58, ty79, ty120, ty122, ty126, ty154, ty156, ty157, ty208, e0, e3, e4, e6, e7, gt5]
     refine (SpecM.l2Flag_a _ _).mono ?_
     rintro R H5 ⟨rfl, rfl⟩
     simp (disch := first | omega | fail) only [amX Tryz.prog ro X, amR Tryz.prog ro X, amS, seval, reduceCtorEq, ty3, ty4, ty9, ty22, ty45, ty56, ty58, ty79, ty120, ty122, ty126, ty154, ty156, ty157, ty208, e0, e3, e4, e6, e7, gt5, hap6]
     have hvb6 := (hav6.lt (List.append_ne_nil_of_right_ne_nil _ (by simp))).2.2
     have hau6 : Acc A.size H6 u5 (l ++ [(hasR K.sp n, 0, ⟨#[]⟩)]) [] := hau5.frame (by omega) fun b hb hm => by
      rcases hm with ⟨k1, k2, rfl⟩ | h
      ·exact hg6.get _ hb (.inr (by omega))
      ·cases h
     refine step (hasR K.sp n, 0, ⟨#[]⟩) S' md' st' G' (seen ++ [(n, false, flagS (hasR K.sp n))]) u5 v6 H4 H6 (by show 0 ≤ 2000; omega) (by rintro (h | h | h); exact absurd h (by show ¬ 2000 < 0; omega); exact absurd h (by show ¬ (0 : Int) < 0; omega); exact absurd h (by show ¬ (7 : Int) < 0; omega)) hgo (hV2.ext hE24) ⟨by omega, fun b hb hm => (hE24.get b (by omega)).trans (hX2.get b hb hm)⟩ hF2 hI2 hS2 hst2 (hRm2.less (by omega)) (by simp) (by omega) ((hE4.get _ (by omega)).trans ((hEt.get _ (by omega)).trans gc3)) ((hE4.get _ (by omega)).trans ((hEt.get _ (by omega)).trans gr3)) (by omega) (fun b h1 h2 h3 => (hg6.get b (by omega) (.inr h3)).trans (o5 b h1 h2)) hau6 hav6 (by omega) (by omega) hvb6 (by omega) (by omega)
   | true =>
     simp (disch := first | omega | fail) only [amR Tryz.prog ro X, amS, seval, reduceCtorEq, ty3, ty4, ty9, ty22, ty45, ty56, ty58, ty79, ty120, ty122, ty126, ty154, ty156, ty157, ty208, e0, e3, e4, e6, e7, gc3, gr3]
     generalize hHt : AH.put (H3.new _) H3.size _ = Ht
     have zt : Ht.size = H3.size + 1 := by rw [← hHt]; rfl
     have hEt : Ext H3 Ht := by rw [← hHt]; exact (by ((repeat' (first | exact Ext.refl _ | assumption | refine Ext.trans ?_ (Ext.new _ _) | refine Ext.put ?_ ?_ _ | refine Ext.trans ?_ (by assumption))) <;> (first | omega | (simp only [AH.zN, AH.zP] <;> omega))))
     have gt : Ht.get H3.size = .cells [.bool false, .int .i64 0, .string ⟨#[]⟩, .bool true, .string n, .int .i64 m.steps] 6 := by rw [← hHt]; exact AH.gPs _ _ _
     clear hHt
     have hE2t := hE3.trans hEt
     have gct := (hEt.get A.size (by omega)).trans gc3
     have grt := (hEt.get (A.size + 1) (by omega)).trans gr3
     have hw := hu.went S' n hS2 hok2.1
     have hstk := hu.stack S' n
     have hgoes := hg.goes S' n hI2 hS2 hok2.1
     have hmiss := hg.miss S' n
     refine (hM Ht S' md' st' G' n (by omega) (hV2.ext hE2t) hI2 hS2 hok2.1 (hRm2.less (by omega)) (by rw [hst2]; exact hd)).mono ?_
     generalize hgu : und S' n = g2 at hw hstk hgoes hmiss ⊢
     obtain ⟨S3, res⟩ := g2
     intro R H4 hR
     cases res with
     | error e =>
       obtain ⟨r, ch, Fc, rfl, rfl, hch, hFc, md3, st3, G3, v3, x3, y3⟩ := hR
       replace v3 : SpV K H4 S3 md3 st3 G3 r ch true := v3
       rw [goR_err hok2 hgu] at hgo
       subst hgo
       have z4 := x3.size
       have gp3 := v3.gp
       unfold scV at gp3
       have hp1 := v3.p1
       have hp0 := v3.p0
       have lo4 : ∀ b, b < H2.size → b ∉ ftpS K md' st' G' → H4.get b = H2.get b := fun b h1 h2 => (x3.get b (by omega) h2).trans (hE2t.get b h1)
       have gr4 := (lo4 (A.size + 1) (by omega) fun hm => (hF2 _ hm).2.2.1 rfl).trans gr2
       have hpA : K.p ≠ A.size + 1 := (hF2 K.p (mem_ftpS.2 (.inl rfl))).2.2.1
       unfold stopV
       simp (disch := first | omega | fail) only [amR Tryz.prog ro X, amS, seval, reduceCtorEq, ty3, ty4, ty9, ty22, ty45, ty56, ty58, ty79, ty120, ty122, ty126, ty154, ty156, ty157, ty208, e0, e3, e4, e6, e7, gp3, gr4]
       generalize hH5 : AH.put (H4.new _) H4.size _ = H5
       have z5 : H5.size = H4.size + 1 := by rw [← hH5]; rfl
       have hE5 : Ext H4 H5 := by rw [← hH5]; exact (by ((repeat' (first | exact Ext.refl _ | assumption | refine Ext.trans ?_ (Ext.new _ _) | refine Ext.put ?_ ?_ _ | refine Ext.trans ?_ (by assumption))) <;> (first | omega | (simp only [AH.zN, AH.zP] <;> omega))))
       clear hH5
       have hX6 : ExtX [A.size + 1] H5 (H5.put (A.size + 1) (.cells [.int .i64 r.1, .string r.2.1, ch.v] 3)) := (ExtX.refl _ _).put (by simp) _
       have hF3 : ∀ b ∈ ftpS K md3 st3 G3, (b ∈ ftpS K md st G ∨ A.size ≤ b) ∧ b ≠ A.size + 1 := fun b hb => by
        rcases y3 b hb with h | h
        ·exact ⟨(hF2 b h).1, (hF2 b h).2.2.1⟩
        ·exact ⟨.inr (by omega), by omega⟩
       refine ⟨r, ch, Fc, v.v, rfl, rfl, (hch.ext hE5).extx hX6 (fun b hb => by have := hFc b hb; simp only [List.mem_singleton]; omega), fun b hb => by have := hFc b hb; omega, md3, st3, G3, (v3.ext hE5).extx hX6 (fun b hb => ?_), ⟨by simp only [AH.zP]; omega, fun b hb hm => ?_⟩, fun b hb => (hF3 b hb).1⟩
       ·rw [List.mem_singleton.1 hb]
        exact ⟨by omega, fun hm => (hF3 _ hm).2 rfl⟩
       ·refine (AH.gPo (by omega)).trans ((hE5.get b (by omega)).trans ((lo4 b (by omega) fun h => ?_).trans (hX2.get b hb hm)))
        rcases (hF2 b h).1 with h | h
        ·exact hm h
        ·omega
     | ok x =>
       obtain ⟨rfl, md3, st3, G3, v3, x3, y3⟩ := hR
       replace v3 : SpV K H4 S3 md3 st3 G3 x0R .nil false := v3
       obtain ⟨hst3, hx1, hx2, hx3⟩ := hstk x hS2 hok2.1 rfl
       rw [goR_ask hok hok2 hgu hx3] at hgo
       have hRm3 : Room 202 K.sp (fuelT (.look true n m) - 1) S3 := (hRm2.less (k := 1 + (fuelT (.look true n m) - 1)) (by omega)).went hw
       have hmx := hmiss x hI2 hS2 hok2.1 rfl
       rw [← told_miss hmx] at hgo
       have z4 := x3.size
       have gp3 := v3.gp
       unfold scV at gp3
       have hp1 := v3.p1
       have hp0 := v3.p0
       have lo4 : ∀ b, b < H2.size → b ∉ ftpS K md' st' G' → H4.get b = H2.get b := fun b h1 h2 => (x3.get b (by omega) h2).trans (hE2t.get b h1)
       have lo4' : ∀ b, b < Ht.size → H2.size ≤ b → H4.get b = Ht.get b := fun b h1 h2 => x3.get b h1 fun hm => by have := (hbd2 b hm).2; omega
       have gt4 := (lo4' H3.size (by omega) (by omega)).trans gt
       have gr4 := (lo4 (A.size + 1) (by omega) fun hm => (hF2 _ hm).2.2.1 rfl).trans gr2
       have gc4 := (lo4 A.size (by omega) fun hm => (hF2 _ hm).2.1 rfl).trans gc2
       have hF3 : ∀ b ∈ ftpS K md3 st3 G3, (b ∈ ftpS K md st G ∨ A.size ≤ b) ∧ b ≠ A.size ∧ b ≠ A.size + 1 ∧ b ≠ u.b ∧ b ≠ v.b := fun b hb => by
        rcases y3 b hb with h | h
        ·exact hF2 b h
        ·exact ⟨.inr (by omega), by omega, by omega, by omega, by omega⟩
       have hfo : ∀ b, b < A.size → b ∉ ftpS K md st G → b ∉ ftpS K md' st' G' := fun b h1 h2 h3 => by
        rcases (hF2 b h3).1 with h | h
        ·exact h2 h
        ·omega
       obtain ⟨c, tx⟩ := x
       simp only at hgo hx1 hx2 hx3 hmx
       unfold madeV
       have hyok : ∀ y : TReply, y = (if c = 4 ∧ hasR K.sp n = false then (false, 0, ⟨#[]⟩) else (true, c, tx)) → y.2.2.size ≤ 2000 ∧ ¬ replyBad y := by
        rintro y rfl
        split
        ·exact ⟨by show 0 ≤ 2000; omega, by rintro (h | h | h); exact absurd h (by show ¬ 2000 < 0; omega); exact absurd h (by show ¬ (0 : Int) < 0; omega); exact absurd h (by show ¬ (7 : Int) < 0; omega)⟩
        ·exact ⟨hx3, by rintro (h | h | h); exact absurd h (by show ¬ 2000 < tx.size; omega); exact absurd h (by show ¬ c < 0; omega); exact absurd h (by show ¬ (7 : Int) < c; omega)⟩
       obtain ⟨y, hy⟩ : ∃ y : TReply, y = (if c = 4 ∧ hasR K.sp n = false then (false, 0, ⟨#[]⟩) else (true, c, tx)) := ⟨_, rfl⟩
       obtain ⟨hy1, hy2⟩ := hyok y hy
       rw [← hy] at hgo
       have hfr24 : ∀ b, b < H2.size → (u.nl = false ∧ A.size ≤ b ∧ b = u.b) ∨ b ∈ ([] : List Nat) → H4.get b = H2.get b := fun b hb hm => by
        rcases hm with ⟨_, _, rfl⟩ | h
        ·exact lo4 _ hb fun hm => (hF2 _ hm).2.2.2.1 rfl
        ·cases h
       have hfr24v : ∀ b, b < H2.size → (v.nl = false ∧ A.size ≤ b ∧ b = v.b) ∨ b ∈ ([] : List Nat) → H4.get b = H2.get b := fun b hb hm => by
        rcases hm with ⟨_, _, rfl⟩ | h
        ·exact lo4 _ hb fun hm => (hF2 _ hm).2.2.2.2 rfl
        ·cases h
       by_cases h4 : c = 4
       ·subst h4
        simp (maxSteps := 2000000) (disch := first | omega | (simp only [AH.zN, AH.zP] <;> omega) | fail) only [amR Tryz.prog ro X, amS, seval, reduceCtorEq, ty3, ty4, ty9, ty22, ty45, ty56, ty58, ty79, ty120, ty122, ty126, ty154, ty156, ty157, ty208, e0, e3, e4, e6, e7, gp3, gr4, gt4]
        generalize hHc : AH.put (AH.new (AH.put (H4.new _) H4.size _) _) (H4.size + 1) _ = Hc
        have zc : Hc.size = H4.size + 2 := by rw [← hHc]; rfl
        have hE4c : Ext H4 Hc := by rw [← hHc]; exact (by ((repeat' (first | exact Ext.refl _ | assumption | refine Ext.trans ?_ (Ext.new _ _) | refine Ext.put ?_ ?_ _ | refine Ext.trans ?_ (by assumption))) <;> (first | omega | (simp only [AH.zN, AH.zP] <;> omega))))
        have gxc : Hc.get H4.size = .cells [.int .i64 4, .string tx, Sl.nil.v] 3 := by rw [← hHc]; simp (maxSteps := 2000000) (disch := first | omega | (simp only [AH.zN, AH.zP] <;> omega) | fail) only [amV, amH, amQ, amL, amN Tryz.prog, amS, seval, reduceCtorEq, ty3, ty4, ty9, ty22, ty45, ty56, ty58, ty79, ty120, ty122, ty126, ty154, ty156, ty157, ty208]
        have gyc : Hc.get (H4.size + 1) = .cells [.bool true, .int .i64 4, .string tx] 3 := by rw [← hHc]; exact AH.gPs _ _ _
        clear hHc
        refine (Smk.has_a (v3.ext hE4c) (by omega) hl1 hl2 n).mono ?_
        rintro R Hd ⟨rfl, hEd⟩
        have zd := hEd.size
        have hE4d := hE4c.trans hEd
        have gtd := (hE4d.get H3.size (by omega)).trans gt4
        have gxd := (hEd.get H4.size (by omega)).trans gxc
        have gyd := (hEd.get (H4.size + 1) (by omega)).trans gyc
        simp (disch := first | omega | fail) only [amR Tryz.prog ro X, amS, seval, reduceCtorEq, ty3, ty4, ty9, ty22, ty45, ty56, ty58, ty79, ty120, ty122, ty126, ty154, ty156, ty157, ty208, e0, e3, e4, e6, e7, gtd]
        refine condCutN (fun f H5 => f 0 = .pointer (some ⟨K.p, 0, none⟩) ∧ f 3 = .pointer (some ⟨A.size, 0, none⟩) ∧ f 4 = .pointer (some ⟨A.size + 1, 0, none⟩) ∧ f 6 = u.v ∧ f 7 = v.v ∧ f 8 = .pointer (some ⟨H3.size, 0, none⟩) ∧ f 10 = .pointer (some ⟨H4.size, 0, none⟩) ∧ f 11 = .pointer (some ⟨H4.size + 1, 0, none⟩) ∧
         H5.size = Hd.size ∧ (∀ b, b ≠ H4.size + 1 → H5.get b = Hd.get b) ∧ H5.get (H4.size + 1) = .cells [.bool y.1, .int .i64 y.2.1, .string y.2.2] 3) ?_ ?_
        ·cases hh : hasR K.sp n with
         | true =>
           rw [hh, if_neg (by simp)] at hy
           subst hy
           simp (disch := first | omega | fail) only [amR Tryz.prog ro X, amS, seval, reduceCtorEq, ty3, ty4, ty9, ty22, ty45, ty56, ty58, ty79, ty120, ty122, ty126, ty154, ty156, ty157, ty208, e0, e3, e4, e6, e7]
           exact ⟨fun b hb => trivial, gyd⟩
         | false =>
           rw [hh, if_pos ⟨rfl, rfl⟩] at hy
           subst hy
           simp (disch := first | omega | fail) only [amR Tryz.prog ro X, amS, seval, reduceCtorEq, ty3, ty4, ty9, ty22, ty45, ty56, ty58, ty79, ty120, ty122, ty126, ty154, ty156, ty157, ty208, e0, e3, e4, e6, e7, gyd]
           exact ⟨fun b hb => AH.gPo hb, rfl⟩
        rintro f H5 ⟨f0, f3, f4, f6, f7, f8, f10, f11, z5, o5, gy5⟩
        have hE45 : Ext H4 H5 := ⟨by omega, fun b hb => (o5 b (by omega)).trans (hE4d.get b hb)⟩
        have gt5 := (o5 H3.size (by omega)).trans gtd
        have gx5 := (o5 H4.size (by omega)).trans gxd
        generalize h4c : (4 : Int) = c at *
        have hfr5 : ∀ b, b < H2.size → (u.nl = false ∧ A.size ≤ b ∧ b = u.b) ∨ b ∈ ([] : List Nat) → H5.get b = H2.get b := fun b hb hm => (hE45.get b (by omega)).trans (hfr24 b hb hm)
        have hfr5v : ∀ b, b < H2.size → (v.nl = false ∧ A.size ≤ b ∧ b = v.b) ∨ b ∈ ([] : List Nat) → H5.get b = H2.get b := fun b hb hm => (hE45.get b (by omega)).trans (hfr24v b hb hm)
        have hfz : (formR c tx []).size < BIG := by have := formR_size c tx []; unfold BIG; omega
        obtain ⟨u6, H6, hap6, hau6, hg6, hz6, hu6⟩ := ((hau.frame (by omega) hfr5).lit (P := Tryz.prog) (ro := ro) (t := 120) (n := 1) (vs := [.bool y.1, .int .i64 y.2.1, .string y.2.2]) (xs := [y]) (Gx := []) (by omega) (by simp only [ty120]; rfl) rfl (Reps.one (rep_Reply.2 ⟨rfl, rfl, by unfold BIG; omega⟩)) (.inr (by simp)) (by omega) (by omega))
        rw [show Dat.w TReply = 3 from rfl] at hap6
        simp (disch := first | omega | fail) only [amR Tryz.prog ro X, amS, seval, reduceCtorEq, ty3, ty4, ty9, ty22, ty45, ty56, ty58, ty79, ty120, ty122, ty126, ty154, ty156, ty157, ty208, f0, f3, f4, f6, f7, f8, f10, f11, gy5, gt5, gx5, hap6]
        have o6 : ∀ b, b < H5.size → b ≠ u.b → H6.get b = H5.get b := fun b h1 h2 => hg6.get b h1 (.inr h2)
        have gt6 := (o6 H3.size (by omega) (by omega)).trans gt5
        have gx6 := (o6 H4.size (by omega) (by omega)).trans gx5
        have hub6 : A.size + 1 < u6.b ∧ u6.b < H6.size ∧ (u6.b = u.b ∨ H5.size < u6.b) := by
         have := (hau6.lt (List.append_ne_nil_of_right_ne_nil _ (by simp))).2.2
         rcases hu6 with ⟨_, k⟩ | ⟨k, _⟩
         ·exact ⟨by omega, this, .inl k⟩
         ·exact ⟨by omega, this, .inr k⟩
        have hav6 : Acc A.size H6 v seen [] := hav.frame (by omega) fun b hb hm => by
         rcases hm with ⟨k1, k2, rfl⟩ | h
         ·exact (o6 _ (by omega) (Ne.symm huv)).trans (hfr5v _ hb (.inl ⟨k1, k2, rfl⟩))
         ·cases h
        refine RunC.norm ?_
        refine WpH (H6.size) [4] (by kernel_rfl) (.inr (by intro v e A h; simp only [amK, amQ, thenQ, blockQ, endQ, reduceCtorEq, false_and, exists_false] at h)) ?_
        simp (disch := first | omega | fail) only [amX Tryz.prog ro X, amR Tryz.prog ro X, amS, seval, reduceCtorEq, ty3, ty4, ty9, ty22, ty45, ty56, ty58, ty79, ty120, ty122, ty126, ty154, ty156, ty157, ty208, f0, f3, f4, f6, f7, f8, f10, f11, gt6, gx6]
        refine (Form.specForm_a H6 (by omega) c tx .nil [] [] (.nil rfl rfl rfl) (by omega)).mono ?_
        rintro R H7 ⟨rfl, hE7⟩
        have z7 := hE7.size
        obtain ⟨v8, H8, hap8, hav8, hg8, hz8, hv8⟩ := (hav6.ext hE7).lit (P := Tryz.prog) (ro := ro) (t := 157) (n := 1) (vs := [.string n, .bool true, .string (formR c tx [])]) (xs := [(n, true, formR c tx [])]) (Gx := []) (by omega) (by simp only [ty157]; rfl) rfl (Reps.one (rep_Seen.2 ⟨rfl, rfl, by show n.size < BIG; unfold BIG; omega, hfz⟩)) (.inr (by simp)) (by omega) (by omega)
        rw [show Dat.w TSeen = 3 from rfl] at hap8
        have gt7 := (hE7.get H3.size (by omega)).trans gt6
        simp (disch := first | omega | fail) only [amX Tryz.prog ro X, amR Tryz.prog ro X, amS, seval, reduceCtorEq, ty3, ty4, ty9, ty22, ty45, ty56, ty58, ty79, ty120, ty122, ty126, ty154, ty156, ty157, ty208, f0, f3, f4, f6, f7, f8, f10, f11, gt6, gt7, gx6, hap8]
        refine ⟨fun b hb => hE7.get b hb, ?_⟩
        have hvb8 := (hav8.lt (List.append_ne_nil_of_right_ne_nil _ (by simp))).2.2
        have hau8 : Acc A.size H8 u6 (l ++ [y]) [] := (hau6.ext hE7).frame (by omega) fun b hb hm => by
         rcases hm with ⟨k1, k2, rfl⟩ | h
         ·exact hg8.get _ hb (.inr (by omega))
         ·cases h
        exact step y S3 md3 st3 G3 (seen ++ [(n, true, formR c tx [])]) u6 v8 H5 H8 hy1 hy2 hgo (v3.ext hE45) ⟨by omega, fun b hb hm => (hE45.get b (by omega)).trans ((lo4 b (by omega) (hfo b hb hm)).trans (hX2.get b hb hm))⟩ hF3 hgoes.inv hw.ok (hst3.trans hst2) hRm3 (by simp) (by omega) ((hE45.get _ (by omega)).trans gc4) ((hE45.get _ (by omega)).trans gr4) (by omega) (fun b h1 h2 h3 => (hg8.get b (by omega) (.inr h3)).trans ((hE7.get b (by omega)).trans (o6 b h1 h2))) hau8 hav8 (by omega) (by omega) hvb8 (by omega) (by omega)
       ·rw [if_neg (fun h => h4 h.1)] at hy
        subst hy
        have f0 := e0
        have f3 := e3
        have f4 := e4
        have f6 := e6
        have f7 := e7
        have f8 := e0
        have f10 := e0
        have f11 := e0
        obtain ⟨H5, hH5⟩ : ∃ H5, H5 = ((((H4.new (.cells [.int .i64 0, .string ByteArray.empty, Sl.nil.v] 3)).put H4.size (.cells [.int .i64 c, .string tx, Sl.nil.v] 3)).new (.cells [.bool false, .int .i64 0, .string ByteArray.empty] 3)).put (H4.size + 1) (.cells [.bool true, .int .i64 c, .string tx] 3)) := ⟨_, rfl⟩
        have z5 : H5.size = H4.size + 2 := by rw [hH5]; rfl
        have hE45 : Ext H4 H5 := by rw [hH5]; exact (by ((repeat' (first | exact Ext.refl _ | assumption | refine Ext.trans ?_ (Ext.new _ _) | refine Ext.put ?_ ?_ _ | refine Ext.trans ?_ (by assumption))) <;> (first | omega | (simp only [AH.zN, AH.zP] <;> omega))))
        have gt5 := (hE45.get H3.size (by omega)).trans gt4
        have gx5 : H5.get H4.size = .cells [.int .i64 c, .string tx, Sl.nil.v] 3 := by rw [hH5]; simp (maxSteps := 2000000) (disch := first | omega | (simp only [AH.zN, AH.zP] <;> omega) | fail) only [amV, amH, amQ, amL, amN Tryz.prog, amS, seval, reduceCtorEq, ty3, ty4, ty9, ty22, ty45, ty56, ty58, ty79, ty120, ty122, ty126, ty154, ty156, ty157, ty208]
        have hfr5 : ∀ b, b < H2.size → (u.nl = false ∧ A.size ≤ b ∧ b = u.b) ∨ b ∈ ([] : List Nat) → H5.get b = H2.get b := fun b hb hm => (hE45.get b (by omega)).trans (hfr24 b hb hm)
        have hfr5v : ∀ b, b < H2.size → (v.nl = false ∧ A.size ≤ b ∧ b = v.b) ∨ b ∈ ([] : List Nat) → H5.get b = H2.get b := fun b hb hm => (hE45.get b (by omega)).trans (hfr24v b hb hm)
        have hfz : (formR c tx []).size < BIG := by have := formR_size c tx []; unfold BIG; omega
        obtain ⟨u6, H6, hap6, hau6, hg6, hz6, hu6⟩ := ((hau.frame (by omega) hfr5).lit (P := Tryz.prog) (ro := ro) (t := 120) (n := 1) (vs := [.bool true, .int .i64 c, .string tx]) (xs := [(true, c, tx)]) (Gx := []) (by omega) (by simp only [ty120]; rfl) rfl (Reps.one (rep_Reply.2 ⟨rfl, rfl, by show tx.size < BIG; unfold BIG; omega⟩)) (.inr (by simp)) (by omega) (by omega))
        rw [show Dat.w TReply = 3 from rfl] at hap6
        have hap6' := hap6
        rw [hH5] at hap6'
        simp only [AH.zP, AH.zN] at hap6'
        simp (maxSteps := 2000000) (disch := first | omega | (simp only [AH.zN, AH.zP] <;> omega) | fail) only [amR Tryz.prog ro X, amS, seval, reduceCtorEq, ty3, ty4, ty9, ty22, ty45, ty56, ty58, ty79, ty120, ty122, ty126, ty154, ty156, ty157, ty208, e0, e3, e4, e6, e7, gp3, gr4, gt4, h4, hap6']
        have o6 : ∀ b, b < H5.size → b ≠ u.b → H6.get b = H5.get b := fun b h1 h2 => hg6.get b h1 (.inr h2)
        have gt6 := (o6 H3.size (by omega) (by omega)).trans gt5
        have gx6 := (o6 H4.size (by omega) (by omega)).trans gx5
        have hub6 : A.size + 1 < u6.b ∧ u6.b < H6.size ∧ (u6.b = u.b ∨ H5.size < u6.b) := by
         have := (hau6.lt (List.append_ne_nil_of_right_ne_nil _ (by simp))).2.2
         rcases hu6 with ⟨_, k⟩ | ⟨k, _⟩
         ·exact ⟨by omega, this, .inl k⟩
         ·exact ⟨by omega, this, .inr k⟩
        have hav6 : Acc A.size H6 v seen [] := hav.frame (by omega) fun b hb hm => by
         rcases hm with ⟨k1, k2, rfl⟩ | h
         ·exact (o6 _ (by omega) (Ne.symm huv)).trans (hfr5v _ hb (.inl ⟨k1, k2, rfl⟩))
         ·cases h
        refine RunC.norm ?_
        refine WpH (H6.size) [4] (by kernel_rfl) (.inr (by intro v e A h; simp only [amK, amQ, thenQ, blockQ, endQ, reduceCtorEq, false_and, exists_false] at h)) ?_
        simp (disch := first | omega | fail) only [amX Tryz.prog ro X, amR Tryz.prog ro X, amS, seval, reduceCtorEq, ty3, ty4, ty9, ty22, ty45, ty56, ty58, ty79, ty120, ty122, ty126, ty154, ty156, ty157, ty208, f0, f3, f4, f6, f7, f8, f10, f11, gt6, gx6]
        refine (Form.specForm_a H6 (by omega) c tx .nil [] [] (.nil rfl rfl rfl) (by omega)).mono ?_
        rintro R H7 ⟨rfl, hE7⟩
        have z7 := hE7.size
        obtain ⟨v8, H8, hap8, hav8, hg8, hz8, hv8⟩ := (hav6.ext hE7).lit (P := Tryz.prog) (ro := ro) (t := 157) (n := 1) (vs := [.string n, .bool true, .string (formR c tx [])]) (xs := [(n, true, formR c tx [])]) (Gx := []) (by omega) (by simp only [ty157]; rfl) rfl (Reps.one (rep_Seen.2 ⟨rfl, rfl, by show n.size < BIG; unfold BIG; omega, hfz⟩)) (.inr (by simp)) (by omega) (by omega)
        rw [show Dat.w TSeen = 3 from rfl] at hap8
        have gt7 := (hE7.get H3.size (by omega)).trans gt6
        simp (disch := first | omega | fail) only [amX Tryz.prog ro X, amR Tryz.prog ro X, amS, seval, reduceCtorEq, ty3, ty4, ty9, ty22, ty45, ty56, ty58, ty79, ty120, ty122, ty126, ty154, ty156, ty157, ty208, f0, f3, f4, f6, f7, f8, f10, f11, gt6, gt7, gx6, hap8]
        refine ⟨fun b hb => hE7.get b hb, ?_⟩
        have hvb8 := (hav8.lt (List.append_ne_nil_of_right_ne_nil _ (by simp))).2.2
        have hau8 : Acc A.size H8 u6 (l ++ [(true, c, tx)]) [] := (hau6.ext hE7).frame (by omega) fun b hb hm => by
         rcases hm with ⟨k1, k2, rfl⟩ | h
         ·exact hg8.get _ hb (.inr (by omega))
         ·cases h
        exact step (true, c, tx) S3 md3 st3 G3 (seen ++ [(n, true, formR c tx [])]) u6 v8 H5 H8 hy1 hy2 hgo (v3.ext hE45) ⟨by omega, fun b hb hm => (hE45.get b (by omega)).trans ((lo4 b (by omega) (hfo b hb hm)).trans (hX2.get b hb hm))⟩ hF3 hgoes.inv hw.ok (hst3.trans hst2) hRm3 (by simp) (by omega) ((hE45.get _ (by omega)).trans gc4) ((hE45.get _ (by omega)).trans gr4) (by omega) (fun b h1 h2 h3 => (hg8.get b (by omega) (.inr h3)).trans ((hE7.get b (by omega)).trans (o6 b h1 h2))) hau8 hav8 (by omega) (by omega) hvb8 (by omega) (by omega)
end Go.Proofs.YtmelgjblkmbhjaaGreatDoor.Amu.Srun
