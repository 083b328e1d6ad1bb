/- What is vouched for. -/
import Derived.Test.YtmelgjblkmbhjaaGreatDoorAmRun
import Derived.Test.YtmelgjblkmbhjaaGreatDoorAmuVspec
import Derived.Test.YtmelgjblkmbhjaaGreatDoorAmuVouch
import Derived.Test.YtmelgjblkmbhjaaGreatDoorAmuCRec
import Derived.Test.YtmelgjblkmbhjaaGreatDoorAmuStore
namespace Go.Proofs.YtmelgjblkmbhjaaGreatDoor.Amu.Vcd
open Go Go.AM Go.Proofs
set_option linter.unusedVariables false
set_option linter.unusedSimpArgs false
theorem ty3 : tKind Tryz.prog 3 = some (.int .i64) ∧ tSize Tryz.prog 3 = some 1 ∧ tAgg Tryz.prog 3 = some false ∧ tZero Tryz.prog 3 = some (.int .i64 0) := ⟨by kernel_rfl, by kernel_rfl, by kernel_rfl, by kernel_rfl⟩
theorem ty4 : tKind Tryz.prog 4 = some (.bool) ∧ tSize Tryz.prog 4 = some 1 ∧ tAgg Tryz.prog 4 = some false ∧ tZero Tryz.prog 4 = some (.bool false) := ⟨by kernel_rfl, by kernel_rfl, by kernel_rfl, by kernel_rfl⟩
theorem ty9 : tKind Tryz.prog 9 = some (.str) ∧ tSize Tryz.prog 9 = some 1 ∧ tAgg Tryz.prog 9 = some false ∧ tZero Tryz.prog 9 = some (.string ByteArray.empty) := ⟨by kernel_rfl, by kernel_rfl, by kernel_rfl, by kernel_rfl⟩
theorem ty22 : tKind Tryz.prog 22 = some (.slice) ∧ tSize Tryz.prog 22 = some 1 ∧ tAgg Tryz.prog 22 = some false ∧ tZero Tryz.prog 22 = some (.slice none 0 0) ∧ tElem Tryz.prog 22 = some 9 ∧ tElemSize Tryz.prog 22 = some 1 ∧ tBytes Tryz.prog 22 = false := ⟨by kernel_rfl, by kernel_rfl, by kernel_rfl, by kernel_rfl, by kernel_rfl, by kernel_rfl, by kernel_rfl⟩
theorem ty27 : tKind Tryz.prog 27 = some (.slice) ∧ tSize Tryz.prog 27 = some 1 ∧ tAgg Tryz.prog 27 = some false ∧ tZero Tryz.prog 27 = some (.slice none 0 0) ∧ tElem Tryz.prog 27 = some 61 ∧ tElemSize Tryz.prog 27 = some 3 ∧ tBytes Tryz.prog 27 = false := ⟨by kernel_rfl, by kernel_rfl, by kernel_rfl, by kernel_rfl, by kernel_rfl, by kernel_rfl, by kernel_rfl⟩
theorem ty29 : tKind Tryz.prog 29 = some (.struct) ∧ tSize Tryz.prog 29 = some 3 ∧ tAgg Tryz.prog 29 = some true ∧ tZero Tryz.prog 29 = some (.agg #[.int .i64 0, .slice none 0 0, .slice none 0 0]) ∧ tField Tryz.prog 29 0 = some (0, 3) ∧ tField Tryz.prog 29 1 = some (1, 22) ∧ tField Tryz.prog 29 2 = some (2, 27) ∧ tPlaces Tryz.prog 29 = some [(0, 1), (1, 1), (2, 1)] := ⟨by kernel_rfl, by kernel_rfl, by kernel_rfl, by kernel_rfl, by kernel_rfl, by kernel_rfl, by kernel_rfl, by kernel_rfl⟩
theorem ty58 : tKind Tryz.prog 58 = some (.struct) ∧ tSize Tryz.prog 58 = some 1 ∧ tAgg Tryz.prog 58 = some true ∧ tZero Tryz.prog 58 = some (.agg #[.slice none 0 0]) ∧ tField Tryz.prog 58 0 = some (0, 56) ∧ tPlaces Tryz.prog 58 = some [(0, 1)] := ⟨by kernel_rfl, by kernel_rfl, by kernel_rfl, by kernel_rfl, by kernel_rfl, by kernel_rfl⟩
theorem ty59 : tKind Tryz.prog 59 = some (.slice) ∧ tSize Tryz.prog 59 = some 1 ∧ tAgg Tryz.prog 59 = some false ∧ tZero Tryz.prog 59 = some (.slice none 0 0) ∧ tElem Tryz.prog 59 = some 110 ∧ tElemSize Tryz.prog 59 = some 3 ∧ tBytes Tryz.prog 59 = false := ⟨by kernel_rfl, by kernel_rfl, by kernel_rfl, by kernel_rfl, by kernel_rfl, by kernel_rfl, by kernel_rfl⟩
theorem ty61 : tKind Tryz.prog 61 = some (.struct) ∧ tSize Tryz.prog 61 = some 3 ∧ tAgg Tryz.prog 61 = some true ∧ tZero Tryz.prog 61 = some (.agg #[.slice none 0 0, .slice none 0 0, .string ByteArray.empty]) ∧ tField Tryz.prog 61 0 = some (0, 58) ∧ tField Tryz.prog 61 1 = some (1, 59) ∧ tField Tryz.prog 61 2 = some (2, 9) ∧ tPlaces Tryz.prog 61 = some [(0, 1), (1, 1), (2, 1)] := ⟨by kernel_rfl, by kernel_rfl, by kernel_rfl, by kernel_rfl, by kernel_rfl, by kernel_rfl, by kernel_rfl, by kernel_rfl⟩

variable {ro : Nat} {X : FuncId → List Value → AH → ARes → AH → Prop}
set_option maxRecDepth 10000
theorem zero_rep (A : AH) : Dat.rep A zeroSt [.int .i64 0, Sl.nil.v, Sl.nil.v] [] := rep_Store.2 ⟨_, _, _, _, rfl, rfl, .nil rfl rfl rfl, .nil rfl rfl rfl⟩
theorem vouchedR_no {x : TStore} (h : ¬ StoreOk x) : vouchedR x = zeroSt := if_neg h
theorem vouchedR_ok {x : TStore} (h : StoreOk x) : vouchedR x = (x.1, x.2.1, x.2.2.filter fun r => decide (vouchS x.1 x.2.1 r = 0)) := if_pos h
set_option maxHeartbeats 4000000 in
theorem impl_a (A : AH) (hro : ro ≤ A.size) (hT : Tab 0 A) (hP : Pow 6 A) (s1 s2 : Sl) (x : TStore) (F1 F2 : List Nat) (h1 : SlR A s1 x.2.1 F1) (h2 : SlR A s2 x.2.2 F2) (hb : ∀ r ∈ x.2.2, r.1.length < 281474976710656) :
    ACalls Tryz.prog ro X 9 [.agg #[.int .i64 x.1, s1.v, s2.v]] A (fun r A' => ∃ cc F, r = .ret (.agg cc.toArray) ∧ Dat.rep A' (vouchedR x) cc F ∧ Fresh A F A' ∧ Ext A A') := by
  refine ACalls.enterQ (rs := [.cell 2 29]) Tryz.func9 rfl (by kernel_rfl) rfl ?_
  have hl1 := h1.len
  have hl2 := h2.len
  simp (maxSteps := 2000000) (disch := first | omega | (simp only [AH.size_new, AH.size_put] <;> omega) | fail) only [amR Tryz.prog ro X, amS, seval, reduceCtorEq, ty3, ty4, ty9, ty22, ty27, ty29, ty58, ty59, ty61]
  generalize hA0 : AH.new (AH.new A _) _ = A0
  have z0 : A0.size = A.size + 2 := by rw [← hA0]; rfl
  have hE0 : Ext A A0 := by rw [← hA0]; exact (by ((repeat' (first | exact Ext.refl _ | assumption | refine Ext.trans ?_ (Ext.new _ _) | refine Ext.put ?_ ?_ _ | refine Ext.trans ?_ (by assumption))) <;> (first | omega | (simp only [AH.size_new, AH.size_put] <;> omega))))
  have gb0 : A0.get A.size = .cells [.int .i64 x.1, s1.v, s2.v] 3 := by rw [← hA0, AH.get_new_other (by simp only [AH.size_new]; omega)]; exact AH.get_new_self _ _
  have gr0 : A0.get (A.size + 1) = .cells [.int .i64 0, Sl.nil.v, Sl.nil.v] 3 := by rw [← hA0]; exact AH.get_new_self (A.new _) _
  clear hA0
  refine (Store.implStore_a _ (by first | omega | (simp only [AH.size_new, AH.size_put] <;> omega)) (hT.ext hE0) s1 s2 x F1 F2 (h1.ext hE0) (h2.ext hE0)).mono ?_
  rintro r A1 ⟨rfl, hE1⟩
  have z1 := hE1.size
  have gb1 := (hE1.get A.size (by omega)).trans gb0
  have gr1 := (hE1.get (A.size + 1) (by omega)).trans gr0
  have hEA1 := hE0.trans hE1
  by_cases hS : StoreOk x
  case neg =>
    rw [vouchedR_no hS]
    simp (maxSteps := 2000000) (disch := first | omega | (simp only [AH.size_new, AH.size_put] <;> omega) | fail) only [amR Tryz.prog ro X, amS, seval, reduceCtorEq, ty3, ty4, ty9, ty22, ty27, ty29, ty58, ty59, ty61, hS, gr1]
    exact ⟨[.int .i64 0, Sl.nil.v, Sl.nil.v], [], rfl, zero_rep _, Fresh.nil _ _, hEA1.put (by omega) _⟩
  rw [vouchedR_ok hS]
  obtain ⟨hw, hn1, hn2, hR, htx, hrec⟩ := hS
  obtain ⟨t1, A2, hap, hacc1, hE2⟩ := (h1.ext hEA1).copied (P := Tryz.prog) (ro := ro) (t := 22) (fun h => h.nofoot nofoot_Str) (by simp only [ty22]; rfl) (by omega) (by omega)
  rw [show Dat.w ByteArray = 1 from rfl] at hap
  have z2 := hE2.size
  have hS' : StoreOk x := ⟨hw, hn1, hn2, hR, htx, hrec⟩
  simp (maxSteps := 2000000) (disch := first | omega | (simp only [AH.size_new, AH.size_put] <;> omega) | fail) only [amR Tryz.prog ro X, amS, seval, reduceCtorEq, ty3, ty4, ty9, ty22, ty27, ty29, ty58, ty59, ty61, hS']
  refine WpH (A.size + 1 + 1) [5] (by kernel_rfl) (.inl (by kernel_rfl)) ?_
  simp (maxSteps := 2000000) (disch := first | omega | (simp only [AH.size_new, AH.size_put] <;> omega) | fail) only [amX Tryz.prog ro X, amR Tryz.prog ro X, amS, seval, reduceCtorEq, ty3, ty4, ty9, ty22, ty27, ty29, ty58, ty59, ty61, gb1, hap]
  refine ⟨fun b hb => (hE2.get b (by omega)).trans (AH.get_new_other (by omega)).symm, ?_⟩
  obtain ⟨G1, hG1, fr1⟩ := hacc1.fresh (Fresh.nil _ A2)
  generalize hA3 : (A2.new _).put A2.size _ = A3
  have z3 : A3.size = A2.size + 1 := by rw [← hA3]; rfl
  have hE3 : Ext A2 A3 := by rw [← hA3]; exact (by ((repeat' (first | exact Ext.refl _ | assumption | refine Ext.trans ?_ (Ext.new _ _) | refine Ext.put ?_ ?_ _ | refine Ext.trans ?_ (by assumption))) <;> (first | omega | (simp only [AH.size_new, AH.size_put] <;> omega))))
  have go3 : A3.get A2.size = .cells [.int .i64 x.1, t1.v, Sl.nil.v] 3 := by rw [← hA3]; exact AH.get_put_self _ _ _
  clear hA3
  have gb3 := ((hE2.trans hE3).get A.size (by omega)).trans gb1
  have gr3 := ((hE2.trans hE3).get (A.size + 1) (by omega)).trans gr1
  have hEA3 := hEA1.trans (hE2.trans hE3)
  have gb2 := (hE2.get A.size (by omega)).trans gb1
  simp (maxSteps := 2000000) (disch := first | omega | (simp only [AH.size_new, AH.size_put] <;> omega) | fail) only [amR Tryz.prog ro X, amS, seval, reduceCtorEq, ty3, ty4, ty9, ty22, ty27, ty29, ty58, ty59, ty61, gb2, gb3, hl2]
  refine Wp.loopC (fun k e H => ExtX [A2.size] A3 H ∧ e 1 = .pointer (some ⟨A.size, 0, none⟩) ∧ e 2 = .pointer (some ⟨A.size + 1, 0, none⟩) ∧ e 3 = .pointer (some ⟨A2.size, 0, none⟩) ∧ e 18 = s2.v ∧ e 19 = .int .i64 x.2.2.length ∧
    ∃ i : Nat, i ≤ x.2.2.length ∧ k = x.2.2.length - i ∧ e 20 = .int .i64 i ∧ ∃ u G, Acc A3.size H u ((x.2.2.take i).filter fun r => decide (vouchS x.1 x.2.1 r = 0)) G ∧ Fresh A3 G H ∧ (u.nl = true ∨ u.b < H.size) ∧ H.get A2.size = .cells [.int .i64 x.1, t1.v, u.v] 3) (x.2.2.length - 0) ?_ ?_
  · simp (maxSteps := 2000000) (disch := first | omega | (simp only [AH.size_new, AH.size_put] <;> omega) | fail) only [amV, amH, amQ, amL, amN Tryz.prog, amS, seval, reduceCtorEq, ty3, ty4, ty9, ty22, ty27, ty29, ty58, ty59, ty61, hl2]
    exact ⟨ExtX.refl _ _, 0, by omega, rfl, rfl, Sl.nil, [], .nil, Fresh.nil _ _, .inl rfl, go3⟩
  · rintro k e H ⟨hXH, e1, e2, e3, e18, e19, i, hi, rfl, eI, u, G, hacc2, hfr, hub, gO⟩
    have hzH := hXH.size
    have hs2 : SlR H s2 x.2.2 F2 := (h2.ext hEA3).extx hXH (fun b hb => by have := h2.bound b hb; simp; omega)
    have hs1 : SlR H s1 x.2.1 F1 := (h1.ext hEA3).extx hXH (fun b hb => by have := h1.bound b hb; simp; omega)
    have gbH := (hXH.get A.size (by omega) (by simp; omega)).trans gb3
    simp (maxSteps := 2000000) (disch := first | omega | (simp only [AH.size_new, AH.size_put] <;> omega) | fail) only [amR Tryz.prog ro X, amS, seval, reduceCtorEq, ty3, ty4, ty9, ty22, ty27, ty29, ty58, ty59, ty61, e1, e2, e3, e18, e19, eI, gbH, hl2]
    refine CondB.split (fun h => ?_) (fun h => ?_)
    · have hil : i < x.2.2.length := by simpa using h
      obtain ⟨n1, b1, i1, w1, w2, K1, K2, rr, d1, d2, z1', hK1, hK2⟩ := hs2.record hil
      have hrk := hrec _ (List.getElem_mem hil)
      have hpl := hrk.1.2.1
      have hll := hrk.2.1
      have hft := filter_take_succ (fun r => decide (vouchS x.1 x.2.1 r = 0)) x.2.2 i hil
      simp (maxSteps := 2000000) (disch := first | omega | (simp only [AH.size_new, AH.size_put] <;> omega) | fail) only [amR Tryz.prog ro X, amS, seval, reduceCtorEq, ty3, ty4, ty9, ty22, ty27, ty29, ty58, ty59, ty61, e1, e2, e3, e18, e19, eI, gbH, n1, rr]
      generalize hJ : (H.new _).put H.size _ = J
      have hEJ : Ext H J := by rw [← hJ]; exact (by ((repeat' (first | exact Ext.refl _ | assumption | refine Ext.trans ?_ (Ext.new _ _) | refine Ext.put ?_ ?_ _ | refine Ext.trans ?_ (by assumption))) <;> (first | omega | (simp only [AH.size_new, AH.size_put] <;> omega))))
      have hJz : J.size = H.size + 1 := by rw [← hJ]; rfl
      have gJ : J.get H.size = .cells [w1.v, w2.v, .string x.2.2[i].2.2] 3 := by rw [← hJ]; exact AH.get_put_self _ _ _
      clear hJ
      have gJO := (hEJ.get A2.size (by omega)).trans gO
      have zA3 := hEA3.size
      have hEAJ : Ext A J := ⟨by omega, fun b hb => (hEJ.get b (by omega)).trans ((hXH.get b (by omega) (by simp; omega)).trans (hEA3.get b hb))⟩
      have hTJ : Tab 0 J := hT.ext hEAJ
      have hPJ : Pow 6 J := hP.ext hEAJ
      refine (Vouch.vouch_a J (by first | omega | (simp only [AH.size_new, AH.size_put] <;> omega)) hTJ hPJ x.1 s1 s2.v rfl x.2.1 F1 (hs1.ext hEJ) hR hn1 htx w1 x.2.2[i].1 K1 (d1.ext hEJ) hrk.1 w2 x.2.2[i].2.1 K2 (d2.ext hEJ) hll x.2.2[i].2.2).mono ?_
      rintro r J2 ⟨rfl, hE4⟩
      have z4 := hE4.size
      have hEJ2 : Ext H J2 := hEJ.trans hE4
      have gO2 := (hEJ2.get A2.size (by omega)).trans gO
      have hXJ2 : ExtX [A2.size] A3 J2 := hXH.trans (hEJ2.x _)
      by_cases hv : vouchS x.1 x.2.1 x.2.2[i] = 0
      case neg =>
        have hd : decide (vouchS x.1 x.2.1 x.2.2[i] = 0) = false := decide_eq_false hv
        have hv' : ¬ vouchS x.1 x.2.1 (x.2.2[i].1, x.2.2[i].2.1, x.2.2[i].2.2) = 0 := hv
        simp (maxSteps := 2000000) (disch := first | omega | (simp only [AH.size_new, AH.size_put] <;> omega) | fail) only [amR Tryz.prog ro X, amS, seval, reduceCtorEq, ty3, ty4, ty9, ty22, ty27, ty29, ty58, ty59, ty61, e1, e2, e3, e18, e19, eI, hv']
        refine ⟨x.2.2.length - (i + 1), by omega, hXJ2, i + 1, by omega, rfl, by simp, u, G, ?_, hfr.mono (Nat.le_refl _) (by omega), hub.imp id fun h => by omega, gO2⟩
        rw [hft, hd]
        simpa using hacc2.ext hEJ2
      have hd : decide (vouchS x.1 x.2.1 x.2.2[i] = 0) = true := decide_eq_true hv
      have hv' : vouchS x.1 x.2.1 (x.2.2[i].1, x.2.2[i].2.1, x.2.2[i].2.2) = 0 := hv
      have gJ2 := (hE4.get H.size (by omega)).trans gJ
      simp (maxSteps := 2000000) (disch := first | omega | (simp only [AH.size_new, AH.size_put] <;> omega) | fail) only [amR Tryz.prog ro X, amS, seval, reduceCtorEq, ty3, ty4, ty9, ty22, ty27, ty29, ty58, ty59, ty61, e1, e2, e3, e18, e19, eI, hv']
      refine WpH (J2.size) [3] (by kernel_rfl) (.inl (by kernel_rfl)) ?_
      simp (maxSteps := 2000000) (disch := first | omega | (simp only [AH.size_new, AH.size_put] <;> omega) | fail) only [amX Tryz.prog ro X, amR Tryz.prog ro X, amS, seval, reduceCtorEq, ty3, ty4, ty9, ty22, ty27, ty29, ty58, ty59, ty61, e1, e2, e3, e18, e19, eI, gJ2, gO2]
      refine (CRec.impl.copyRecord_a _ (by first | omega | (simp only [AH.size_new, AH.size_put] <;> omega)) w1 w2 x.2.2[i] K1 K2 (d1.ext hEJ2) (d2.ext hEJ2) (by omega) (by omega)).mono ?_
      rintro r A5 ⟨t3, t4, G3, G4, rfl, q3, q4, fr3, hE5⟩
      have v5 := hE5.size
      have hflen : ((x.2.2.take i).filter fun r => decide (vouchS x.1 x.2.1 r = 0)).length ≤ i := Nat.le_trans (List.length_filter_le _ _) (by rw [List.length_take]; omega)
      obtain ⟨u2, A8, hap2, hs', hg, hz8, _⟩ := ((hacc2.ext hEJ2).ext hE5).lit (P := Tryz.prog) (ro := ro) (t := 27) (n := 1) (vs := [t3.v, t4.v, .string x.2.2[i].2.2]) (xs := [x.2.2[i]]) (Gx := G3 ++ G4) (by omega) (by simp only [ty27]; rfl) rfl (Reps.one (rep_Record.2 ⟨t3, t4, G3, G4, rfl, rfl, q3, q4, by show x.2.2[i].2.2.size < _; unfold BIG; omega⟩)) (hub.imp id fun h hm => by have := fr3.lo _ hm; omega) (by omega) (by omega)
      rw [show Dat.w TRecord = 3 from rfl] at hap2
      have gA5 := (hE5.get A2.size (by omega)).trans gO2
      have gA8 := (hg.get A2.size (by omega) (.inl (by omega))).trans gA5
      simp (maxSteps := 2000000) (disch := first | omega | (simp only [AH.size_new, AH.size_put] <;> omega) | fail) only [amX Tryz.prog ro X, amR Tryz.prog ro X, amS, seval, reduceCtorEq, ty3, ty4, ty9, ty22, ty27, ty29, ty58, ty59, ty61, e1, e2, e3, e18, e19, eI, hap2, gA5, gA8]
      obtain ⟨y1, y2, y3⟩ := hs'.lt (List.append_ne_nil_of_right_ne_nil _ (by simp))
      refine ⟨fun b hb => hE5.get b (by first | omega | (simp only [AH.size_new, AH.size_put] <;> omega)), x.2.2.length - (i + 1), by omega, ⟨(by first | omega | (simp only [AH.size_new, AH.size_put] <;> omega)), fun b hb hm => (AH.get_put_other (by simpa using hm)).trans ((hg.get b (by omega) (.inl hb)).trans ((hE5.get b (by omega)).trans (hXJ2.get b hb hm)))⟩, i + 1, by omega, rfl, by simp, u2, G ++ (G3 ++ G4), ?_, ?_, .inr (by first | omega | (simp only [AH.size_new, AH.size_put] <;> omega)), rfl⟩
      · rw [hft, hd, if_pos rfl]
        refine hs'.frame (Nat.le_refl _) (fun x hx h => AH.get_put_other ?_)
        rcases h with ⟨_, h, _⟩ | h
        · omega
        · rcases List.mem_append.1 h with h | h
          · have := hfr.lo x h; omega
          · have := fr3.lo x h; omega
      · exact ((hfr.mono (Nat.le_refl _) (by omega)).append fr3 (by omega) (by omega)).mono (Nat.le_refl _) (by first | omega | (simp only [AH.size_new, AH.size_put] <;> omega))
    · have hil : i = x.2.2.length := by simp at h; omega
      subst hil
      rw [List.take_length] at hacc2
      have gr := (hXH.get (A.size + 1) (by omega) (by simp; omega)).trans gr3
      simp (maxSteps := 2000000) (disch := first | omega | (simp only [AH.size_new, AH.size_put] <;> omega) | fail) only [amR Tryz.prog ro X, amS, seval, reduceCtorEq, ty3, ty4, ty9, ty22, ty27, ty29, ty58, ty59, ty61, e1, e2, e3, gO, gr]
      obtain ⟨F, k1, k2, k3, _⟩ := hacc2.foot hfr.lo hfr.nodup
      refine ⟨[.int .i64 x.1, t1.v, u.v], G1 ++ F, rfl, rep_Store.2 ⟨t1, u, G1, F, rfl, rfl, ?_, ?_⟩, ⟨List.nodup_append.2 ⟨fr1.nodup, k2, fun a ha b hb e => by have := fr1.hi a ha; have := k3 b hb; omega⟩, fun b hb => ?_, fun b hb => ?_⟩, ⟨(by first | omega | (simp only [AH.size_new, AH.size_put] <;> omega)), fun b hb => by rw [AH.get_put_other (by omega)]; exact (hXH.get b (by omega) (by simp; omega)).trans (hEA3.get b hb)⟩⟩
      · exact ((hG1.ext hE3).extx hXH (fun b hb => by have := fr1.hi b hb; simp; omega)).extx ((ExtX.refl [A.size + 1] H).put (by simp) _) (fun b hb => by have := fr1.lo b hb; simp; omega)
      · exact k1.extx ((ExtX.refl [A.size + 1] H).put (by simp) _) (fun b hb => by have := k3 b hb; simp; omega)
      · rcases List.mem_append.1 hb with h | h
        · have := fr1.lo b h; omega
        · have := k3 b h; omega
      · rcases List.mem_append.1 hb with h | h
        · have := fr1.hi b h; simp only [AH.size_put]; omega
        · have := k1.bound b h; simpa only [AH.size_put] using this
set_option maxHeartbeats 4000000 in
theorem spec_a (A : AH) (hro : ro ≤ A.size) (s1 s2 : Sl) (x : TStore) (F1 F2 : List Nat) (h1 : SlR A s1 x.2.1 F1) (h2 : SlR A s2 x.2.2 F2) (hb : ∀ r ∈ x.2.2, r.1.length < 281474976710656) :
    ACalls Tryz.prog ro X 7 [.agg #[.int .i64 x.1, s1.v, s2.v]] A (fun r A' => ∃ cc F, r = .ret (.agg cc.toArray) ∧ Dat.rep A' (vouchedR x) cc F ∧ Fresh A F A' ∧ Ext A A') := by
  refine ACalls.enterQ (rs := [.cell 2 29]) Tryz.func7 rfl (by kernel_rfl) rfl ?_
  have hl1 := h1.len
  have hl2 := h2.len
  simp (maxSteps := 2000000) (disch := first | omega | (simp only [AH.size_new, AH.size_put] <;> omega) | fail) only [amR Tryz.prog ro X, amS, seval, reduceCtorEq, ty3, ty4, ty9, ty22, ty27, ty29, ty58, ty59, ty61]
  generalize hA0 : AH.new (AH.new A _) _ = A0
  have z0 : A0.size = A.size + 2 := by rw [← hA0]; rfl
  have hE0 : Ext A A0 := by rw [← hA0]; exact (by ((repeat' (first | exact Ext.refl _ | assumption | refine Ext.trans ?_ (Ext.new _ _) | refine Ext.put ?_ ?_ _ | refine Ext.trans ?_ (by assumption))) <;> (first | omega | (simp only [AH.size_new, AH.size_put] <;> omega))))
  have gb0 : A0.get A.size = .cells [.int .i64 x.1, s1.v, s2.v] 3 := by rw [← hA0, AH.get_new_other (by simp only [AH.size_new]; omega)]; exact AH.get_new_self _ _
  have gr0 : A0.get (A.size + 1) = .cells [.int .i64 0, Sl.nil.v, Sl.nil.v] 3 := by rw [← hA0]; exact AH.get_new_self (A.new _) _
  clear hA0
  refine (Store.specStore_a _ (by first | omega | (simp only [AH.size_new, AH.size_put] <;> omega)) s1 s2 x F1 F2 (h1.ext hE0) (h2.ext hE0) hb).mono ?_
  rintro r A1 ⟨rfl, hE1⟩
  have z1 := hE1.size
  have gb1 := (hE1.get A.size (by omega)).trans gb0
  have gr1 := (hE1.get (A.size + 1) (by omega)).trans gr0
  have hEA1 := hE0.trans hE1
  by_cases hS : StoreOk x
  case neg =>
    rw [vouchedR_no hS]
    simp (maxSteps := 2000000) (disch := first | omega | (simp only [AH.size_new, AH.size_put] <;> omega) | fail) only [amR Tryz.prog ro X, amS, seval, reduceCtorEq, ty3, ty4, ty9, ty22, ty27, ty29, ty58, ty59, ty61, hS, gr1]
    exact ⟨[.int .i64 0, Sl.nil.v, Sl.nil.v], [], rfl, zero_rep _, Fresh.nil _ _, hEA1.put (by omega) _⟩
  rw [vouchedR_ok hS]
  obtain ⟨hw, hn1, hn2, hR, htx, hrec⟩ := hS
  obtain ⟨t1, A2, hap, hacc1, hE2⟩ := (h1.ext hEA1).copied (P := Tryz.prog) (ro := ro) (t := 22) (fun h => h.nofoot nofoot_Str) (by simp only [ty22]; rfl) (by omega) (by omega)
  rw [show Dat.w ByteArray = 1 from rfl] at hap
  have z2 := hE2.size
  have hS' : StoreOk x := ⟨hw, hn1, hn2, hR, htx, hrec⟩
  simp (maxSteps := 2000000) (disch := first | omega | (simp only [AH.size_new, AH.size_put] <;> omega) | fail) only [amR Tryz.prog ro X, amS, seval, reduceCtorEq, ty3, ty4, ty9, ty22, ty27, ty29, ty58, ty59, ty61, hS']
  refine WpH (A.size + 1 + 1) [5] (by kernel_rfl) (.inl (by kernel_rfl)) ?_
  simp (maxSteps := 2000000) (disch := first | omega | (simp only [AH.size_new, AH.size_put] <;> omega) | fail) only [amX Tryz.prog ro X, amR Tryz.prog ro X, amS, seval, reduceCtorEq, ty3, ty4, ty9, ty22, ty27, ty29, ty58, ty59, ty61, gb1, hap]
  refine ⟨fun b hb => (hE2.get b (by omega)).trans (AH.get_new_other (by omega)).symm, ?_⟩
  obtain ⟨G1, hG1, fr1⟩ := hacc1.fresh (Fresh.nil _ A2)
  generalize hA3 : (A2.new _).put A2.size _ = A3
  have z3 : A3.size = A2.size + 1 := by rw [← hA3]; rfl
  have hE3 : Ext A2 A3 := by rw [← hA3]; exact (by ((repeat' (first | exact Ext.refl _ | assumption | refine Ext.trans ?_ (Ext.new _ _) | refine Ext.put ?_ ?_ _ | refine Ext.trans ?_ (by assumption))) <;> (first | omega | (simp only [AH.size_new, AH.size_put] <;> omega))))
  have go3 : A3.get A2.size = .cells [.int .i64 x.1, t1.v, Sl.nil.v] 3 := by rw [← hA3]; exact AH.get_put_self _ _ _
  clear hA3
  have gb3 := ((hE2.trans hE3).get A.size (by omega)).trans gb1
  have gr3 := ((hE2.trans hE3).get (A.size + 1) (by omega)).trans gr1
  have hEA3 := hEA1.trans (hE2.trans hE3)
  refine Wp.loopC (fun k e H => ExtX [A2.size] A3 H ∧ e 1 = .pointer (some ⟨A.size, 0, none⟩) ∧ e 2 = .pointer (some ⟨A.size + 1, 0, none⟩) ∧ e 3 = .pointer (some ⟨A2.size, 0, none⟩) ∧ 
    ∃ i : Nat, i ≤ x.2.2.length ∧ k = x.2.2.length - i ∧ e 4 = .int .i64 i ∧ ∃ u G, Acc A3.size H u ((x.2.2.take i).filter fun r => decide (vouchS x.1 x.2.1 r = 0)) G ∧ Fresh A3 G H ∧ (u.nl = true ∨ u.b < H.size) ∧ H.get A2.size = .cells [.int .i64 x.1, t1.v, u.v] 3) (x.2.2.length - 0) ?_ ?_
  · simp (maxSteps := 2000000) (disch := first | omega | (simp only [AH.size_new, AH.size_put] <;> omega) | fail) only [amV, amH, amQ, amL, amN Tryz.prog, amS, seval, reduceCtorEq, ty3, ty4, ty9, ty22, ty27, ty29, ty58, ty59, ty61, hl2]
    exact ⟨ExtX.refl _ _, 0, by omega, rfl, rfl, Sl.nil, [], .nil, Fresh.nil _ _, .inl rfl, go3⟩
  · rintro k e H ⟨hXH, e1, e2, e3, i, hi, rfl, eI, u, G, hacc2, hfr, hub, gO⟩
    have hzH := hXH.size
    have hs2 : SlR H s2 x.2.2 F2 := (h2.ext hEA3).extx hXH (fun b hb => by have := h2.bound b hb; simp; omega)
    have hs1 : SlR H s1 x.2.1 F1 := (h1.ext hEA3).extx hXH (fun b hb => by have := h1.bound b hb; simp; omega)
    have gbH := (hXH.get A.size (by omega) (by simp; omega)).trans gb3
    simp (maxSteps := 2000000) (disch := first | omega | (simp only [AH.size_new, AH.size_put] <;> omega) | fail) only [amR Tryz.prog ro X, amS, seval, reduceCtorEq, ty3, ty4, ty9, ty22, ty27, ty29, ty58, ty59, ty61, e1, e2, e3, eI, gbH, hl2]
    refine CondB.split (fun h => ?_) (fun h => ?_)
    · have hil : i < x.2.2.length := by simpa using h
      obtain ⟨n1, b1, i1, w1, w2, K1, K2, rr, d1, d2, z1', hK1, hK2⟩ := hs2.record hil
      have hrk := hrec _ (List.getElem_mem hil)
      have hpl := hrk.1.2.1
      have hll := hrk.2.1
      have hft := filter_take_succ (fun r => decide (vouchS x.1 x.2.1 r = 0)) x.2.2 i hil
      refine Wp.runG [] (by kernel_rfl) (.inl (by kernel_rfl)) ?_
      simp (maxSteps := 2000000) (disch := first | omega | (simp only [AH.size_new, AH.size_put] <;> omega) | fail) only [amR Tryz.prog ro X, amS, seval, reduceCtorEq, ty3, ty4, ty9, ty22, ty27, ty29, ty58, ty59, ty61, e1, e2, e3, eI, gbH, hl2, n1, b1, i1, rr]
      have hEJ : Ext H H := Ext.refl H
      have hJz : H.size ≤ H.size := Nat.le_refl _
      refine (Vspec.l4Vouch_a H (by first | omega | (simp only [AH.size_new, AH.size_put] <;> omega)) x.1 s1 s2.v rfl x.2.1 F1 hs1 hn1 htx w1 x.2.2[i].1 K1 d1 hrk.1 w2 x.2.2[i].2.1 K2 d2 hll x.2.2[i].2.2).mono ?_
      rintro r J2 ⟨rfl, hE4⟩
      have z4 := hE4.size
      have hEJ2 : Ext H J2 := hEJ.trans hE4
      have gO2 := (hEJ2.get A2.size (by omega)).trans gO
      have hXJ2 : ExtX [A2.size] A3 J2 := hXH.trans (hEJ2.x _)
      by_cases hv : vouchS x.1 x.2.1 x.2.2[i] = 0
      case neg =>
        have hd : decide (vouchS x.1 x.2.1 x.2.2[i] = 0) = false := decide_eq_false hv
        have hv' : ¬ vouchS x.1 x.2.1 (x.2.2[i].1, x.2.2[i].2.1, x.2.2[i].2.2) = 0 := hv
        simp (maxSteps := 2000000) (disch := first | omega | (simp only [AH.size_new, AH.size_put] <;> omega) | fail) only [amR Tryz.prog ro X, amS, seval, reduceCtorEq, ty3, ty4, ty9, ty22, ty27, ty29, ty58, ty59, ty61, e1, e2, e3, eI, hv']
        refine ⟨x.2.2.length - (i + 1), by omega, hXJ2, i + 1, by omega, rfl, by simp, u, G, ?_, hfr.mono (Nat.le_refl _) (by omega), hub.imp id fun h => by omega, gO2⟩
        rw [hft, hd]
        simpa using hacc2.ext hEJ2
      have hd : decide (vouchS x.1 x.2.1 x.2.2[i] = 0) = true := decide_eq_true hv
      have hv' : vouchS x.1 x.2.1 (x.2.2[i].1, x.2.2[i].2.1, x.2.2[i].2.2) = 0 := hv
      have gb2 := (hEJ2.get A.size (by omega)).trans gbH
      have rr2 : rowK (s2.o + i * 3) 3 (J2.get s2.b) = _ := (congrArg (rowK (s2.o + i * 3) 3) (hEJ2.get s2.b b1)).trans rr
      simp (maxSteps := 2000000) (disch := first | omega | (simp only [AH.size_new, AH.size_put] <;> omega) | fail) only [amR Tryz.prog ro X, amS, seval, reduceCtorEq, ty3, ty4, ty9, ty22, ty27, ty29, ty58, ty59, ty61, e1, e2, e3, eI, hv']
      refine WpH (J2.size) [7] (by kernel_rfl) (.inl (by kernel_rfl)) ?_
      simp (maxSteps := 2000000) (disch := first | omega | (simp only [AH.size_new, AH.size_put] <;> omega) | fail) only [amX Tryz.prog ro X, amR Tryz.prog ro X, amS, seval, reduceCtorEq, ty3, ty4, ty9, ty22, ty27, ty29, ty58, ty59, ty61, e1, e2, e3, eI, gb2, gO2, n1, i1, rr2]
      refine (CRec.spec.l4Record_a _ (by first | omega | (simp only [AH.size_new, AH.size_put] <;> omega)) w1 w2 x.2.2[i] K1 K2 (d1.ext hEJ2) (d2.ext hEJ2) (by omega) (by omega)).mono ?_
      rintro r A5 ⟨t3, t4, G3, G4, rfl, q3, q4, fr3, hE5⟩
      have v5 := hE5.size
      have hflen : ((x.2.2.take i).filter fun r => decide (vouchS x.1 x.2.1 r = 0)).length ≤ i := Nat.le_trans (List.length_filter_le _ _) (by rw [List.length_take]; omega)
      obtain ⟨u2, A8, hap2, hs', hg, hz8, _⟩ := ((hacc2.ext hEJ2).ext hE5).lit (P := Tryz.prog) (ro := ro) (t := 27) (n := 1) (vs := [t3.v, t4.v, .string x.2.2[i].2.2]) (xs := [x.2.2[i]]) (Gx := G3 ++ G4) (by omega) (by simp only [ty27]; rfl) rfl (Reps.one (rep_Record.2 ⟨t3, t4, G3, G4, rfl, rfl, q3, q4, by show x.2.2[i].2.2.size < _; unfold BIG; omega⟩)) (hub.imp id fun h hm => by have := fr3.lo _ hm; omega) (by omega) (by omega)
      rw [show Dat.w TRecord = 3 from rfl] at hap2
      have gA5 := (hE5.get A2.size (by omega)).trans gO2
      have gA8 := (hg.get A2.size (by omega) (.inl (by omega))).trans gA5
      simp (maxSteps := 2000000) (disch := first | omega | (simp only [AH.size_new, AH.size_put] <;> omega) | fail) only [amX Tryz.prog ro X, amR Tryz.prog ro X, amS, seval, reduceCtorEq, ty3, ty4, ty9, ty22, ty27, ty29, ty58, ty59, ty61, e1, e2, e3, eI, hap2, gA5, gA8]
      obtain ⟨y1, y2, y3⟩ := hs'.lt (List.append_ne_nil_of_right_ne_nil _ (by simp))
      refine ⟨fun b hb => hE5.get b (by first | omega | (simp only [AH.size_new, AH.size_put] <;> omega)), x.2.2.length - (i + 1), by omega, ⟨(by first | omega | (simp only [AH.size_new, AH.size_put] <;> omega)), fun b hb hm => (AH.get_put_other (by simpa using hm)).trans ((hg.get b (by omega) (.inl hb)).trans ((hE5.get b (by omega)).trans (hXJ2.get b hb hm)))⟩, i + 1, by omega, rfl, by simp, u2, G ++ (G3 ++ G4), ?_, ?_, .inr (by first | omega | (simp only [AH.size_new, AH.size_put] <;> omega)), rfl⟩
      · rw [hft, hd, if_pos rfl]
        refine hs'.frame (Nat.le_refl _) (fun x hx h => AH.get_put_other ?_)
        rcases h with ⟨_, h, _⟩ | h
        · omega
        · rcases List.mem_append.1 h with h | h
          · have := hfr.lo x h; omega
          · have := fr3.lo x h; omega
      · exact ((hfr.mono (Nat.le_refl _) (by omega)).append fr3 (by omega) (by omega)).mono (Nat.le_refl _) (by first | omega | (simp only [AH.size_new, AH.size_put] <;> omega))
    · have hil : i = x.2.2.length := by simp at h; omega
      subst hil
      rw [List.take_length] at hacc2
      have gr := (hXH.get (A.size + 1) (by omega) (by simp; omega)).trans gr3
      simp (maxSteps := 2000000) (disch := first | omega | (simp only [AH.size_new, AH.size_put] <;> omega) | fail) only [amR Tryz.prog ro X, amS, seval, reduceCtorEq, ty3, ty4, ty9, ty22, ty27, ty29, ty58, ty59, ty61, e1, e2, e3, gO, gr]
      obtain ⟨F, k1, k2, k3, _⟩ := hacc2.foot hfr.lo hfr.nodup
      refine ⟨[.int .i64 x.1, t1.v, u.v], G1 ++ F, rfl, rep_Store.2 ⟨t1, u, G1, F, rfl, rfl, ?_, ?_⟩, ⟨List.nodup_append.2 ⟨fr1.nodup, k2, fun a ha b hb e => by have := fr1.hi a ha; have := k3 b hb; omega⟩, fun b hb => ?_, fun b hb => ?_⟩, ⟨(by first | omega | (simp only [AH.size_new, AH.size_put] <;> omega)), fun b hb => by rw [AH.get_put_other (by omega)]; exact (hXH.get b (by omega) (by simp; omega)).trans (hEA3.get b hb)⟩⟩
      · exact ((hG1.ext hE3).extx hXH (fun b hb => by have := fr1.hi b hb; simp; omega)).extx ((ExtX.refl [A.size + 1] H).put (by simp) _) (fun b hb => by have := fr1.lo b hb; simp; omega)
      · exact k1.extx ((ExtX.refl [A.size + 1] H).put (by simp) _) (fun b hb => by have := k3 b hb; simp; omega)
      · rcases List.mem_append.1 hb with h | h
        · have := fr1.lo b h; omega
        · have := k3 b h; omega
      · rcases List.mem_append.1 hb with h | h
        · have := fr1.hi b h; simp only [AH.size_put]; omega
        · have := k1.bound b h; simpa only [AH.size_put] using this
end Go.Proofs.YtmelgjblkmbhjaaGreatDoor.Amu.Vcd
