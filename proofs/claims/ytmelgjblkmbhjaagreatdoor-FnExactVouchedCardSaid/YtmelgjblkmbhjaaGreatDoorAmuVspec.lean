/- A record is vouched for: the specification. -/
import Derived.Test.YtmelgjblkmbhjaaGreatDoorAmRun
import Derived.Test.YtmelgjblkmbhjaaGreatDoorAmuSpecN
import Derived.Test.YtmelgjblkmbhjaaGreatDoorAmuPlace
import Derived.Test.YtmelgjblkmbhjaaGreatDoorAmuStore
import Derived.Test.YtmelgjblkmbhjaaGreatDoorAmuForm
import Derived.Test.YtmelgjblkmbhjaaGreatDoorAmuVread
import Derived.Test.YtmelgjblkmbhjaaGreatDoorAmuSum
import Derived.Test.YtmelgjblkmbhjaaGreatDoorAmuVouch
namespace Go.Proofs.YtmelgjblkmbhjaaGreatDoor.Amu.Vspec
open Go Go.AM Go.Proofs
set_option linter.unusedVariables false
set_option linter.unusedSimpArgs false
theorem ty3 : tKind Tryz.prog 3 = some (.int .i64) ∧ tSize Tryz.prog 3 = some 1 ∧ tAgg Tryz.prog 3 = some false ∧ tZero Tryz.prog 3 = some (.int .i64 0) := ⟨by kernel_rfl, by kernel_rfl, by kernel_rfl, by kernel_rfl⟩
theorem ty4 : tKind Tryz.prog 4 = some (.bool) ∧ tSize Tryz.prog 4 = some 1 ∧ tAgg Tryz.prog 4 = some false ∧ tZero Tryz.prog 4 = some (.bool false) := ⟨by kernel_rfl, by kernel_rfl, by kernel_rfl, by kernel_rfl⟩
theorem ty9 : tKind Tryz.prog 9 = some (.str) ∧ tSize Tryz.prog 9 = some 1 ∧ tAgg Tryz.prog 9 = some false ∧ tZero Tryz.prog 9 = some (.string ByteArray.empty) := ⟨by kernel_rfl, by kernel_rfl, by kernel_rfl, by kernel_rfl⟩
theorem ty22 : tKind Tryz.prog 22 = some (.slice) ∧ tSize Tryz.prog 22 = some 1 ∧ tAgg Tryz.prog 22 = some false ∧ tZero Tryz.prog 22 = some (.slice none 0 0) ∧ tElem Tryz.prog 22 = some 9 ∧ tElemSize Tryz.prog 22 = some 1 ∧ tBytes Tryz.prog 22 = false := ⟨by kernel_rfl, by kernel_rfl, by kernel_rfl, by kernel_rfl, by kernel_rfl, by kernel_rfl, by kernel_rfl⟩
theorem ty27 : tKind Tryz.prog 27 = some (.slice) ∧ tSize Tryz.prog 27 = some 1 ∧ tAgg Tryz.prog 27 = some false ∧ tZero Tryz.prog 27 = some (.slice none 0 0) ∧ tElem Tryz.prog 27 = some 61 ∧ tElemSize Tryz.prog 27 = some 3 ∧ tBytes Tryz.prog 27 = false := ⟨by kernel_rfl, by kernel_rfl, by kernel_rfl, by kernel_rfl, by kernel_rfl, by kernel_rfl, by kernel_rfl⟩
theorem ty29 : tKind Tryz.prog 29 = some (.struct) ∧ tSize Tryz.prog 29 = some 3 ∧ tAgg Tryz.prog 29 = some true ∧ tZero Tryz.prog 29 = some (.agg #[.int .i64 0, .slice none 0 0, .slice none 0 0]) ∧ tField Tryz.prog 29 0 = some (0, 3) ∧ tField Tryz.prog 29 1 = some (1, 22) ∧ tField Tryz.prog 29 2 = some (2, 27) ∧ tPlaces Tryz.prog 29 = some [(0, 1), (1, 1), (2, 1)] := ⟨by kernel_rfl, by kernel_rfl, by kernel_rfl, by kernel_rfl, by kernel_rfl, by kernel_rfl, by kernel_rfl, by kernel_rfl⟩
theorem ty56 : tKind Tryz.prog 56 = some (.slice) ∧ tSize Tryz.prog 56 = some 1 ∧ tAgg Tryz.prog 56 = some false ∧ tZero Tryz.prog 56 = some (.slice none 0 0) ∧ tElem Tryz.prog 56 = some 106 ∧ tElemSize Tryz.prog 56 = some 3 ∧ tBytes Tryz.prog 56 = false := ⟨by kernel_rfl, by kernel_rfl, by kernel_rfl, by kernel_rfl, by kernel_rfl, by kernel_rfl, by kernel_rfl⟩
theorem ty58 : tKind Tryz.prog 58 = some (.struct) ∧ tSize Tryz.prog 58 = some 1 ∧ tAgg Tryz.prog 58 = some true ∧ tZero Tryz.prog 58 = some (.agg #[.slice none 0 0]) ∧ tField Tryz.prog 58 0 = some (0, 56) ∧ tPlaces Tryz.prog 58 = some [(0, 1)] := ⟨by kernel_rfl, by kernel_rfl, by kernel_rfl, by kernel_rfl, by kernel_rfl, by kernel_rfl⟩
theorem ty59 : tKind Tryz.prog 59 = some (.slice) ∧ tSize Tryz.prog 59 = some 1 ∧ tAgg Tryz.prog 59 = some false ∧ tZero Tryz.prog 59 = some (.slice none 0 0) ∧ tElem Tryz.prog 59 = some 110 ∧ tElemSize Tryz.prog 59 = some 3 ∧ tBytes Tryz.prog 59 = false := ⟨by kernel_rfl, by kernel_rfl, by kernel_rfl, by kernel_rfl, by kernel_rfl, by kernel_rfl, by kernel_rfl⟩
theorem ty61 : tKind Tryz.prog 61 = some (.struct) ∧ tSize Tryz.prog 61 = some 3 ∧ tAgg Tryz.prog 61 = some true ∧ tZero Tryz.prog 61 = some (.agg #[.slice none 0 0, .slice none 0 0, .string ByteArray.empty]) ∧ tField Tryz.prog 61 0 = some (0, 58) ∧ tField Tryz.prog 61 1 = some (1, 59) ∧ tField Tryz.prog 61 2 = some (2, 9) ∧ tPlaces Tryz.prog 61 = some [(0, 1), (1, 1), (2, 1)] := ⟨by kernel_rfl, by kernel_rfl, by kernel_rfl, by kernel_rfl, by kernel_rfl, by kernel_rfl, by kernel_rfl, by kernel_rfl⟩
theorem ty79 : tKind Tryz.prog 79 = some (.struct) ∧ tSize Tryz.prog 79 = some 3 ∧ tAgg Tryz.prog 79 = some true ∧ tZero Tryz.prog 79 = some (.agg #[.int .i64 0, .string ByteArray.empty, .slice none 0 0]) ∧ tField Tryz.prog 79 0 = some (0, 3) ∧ tField Tryz.prog 79 1 = some (1, 9) ∧ tField Tryz.prog 79 2 = some (2, 22) ∧ tPlaces Tryz.prog 79 = some [(0, 1), (1, 1), (2, 1)] := ⟨by kernel_rfl, by kernel_rfl, by kernel_rfl, by kernel_rfl, by kernel_rfl, by kernel_rfl, by kernel_rfl, by kernel_rfl⟩
theorem ty110 : tKind Tryz.prog 110 = some (.struct) ∧ tSize Tryz.prog 110 = some 3 ∧ tAgg Tryz.prog 110 = some true ∧ tZero Tryz.prog 110 = some (.agg #[.string ByteArray.empty, .bool false, .string ByteArray.empty]) ∧ tField Tryz.prog 110 0 = some (0, 9) ∧ tField Tryz.prog 110 1 = some (1, 4) ∧ tField Tryz.prog 110 2 = some (2, 9) ∧ tPlaces Tryz.prog 110 = some [(0, 1), (1, 1), (2, 1)] := ⟨by kernel_rfl, by kernel_rfl, by kernel_rfl, by kernel_rfl, by kernel_rfl, by kernel_rfl, by kernel_rfl, by kernel_rfl⟩
theorem ty120 : tKind Tryz.prog 120 = some (.slice) ∧ tSize Tryz.prog 120 = some 1 ∧ tAgg Tryz.prog 120 = some false ∧ tZero Tryz.prog 120 = some (.slice none 0 0) ∧ tElem Tryz.prog 120 = some 126 ∧ tElemSize Tryz.prog 120 = some 3 ∧ tBytes Tryz.prog 120 = false := ⟨by kernel_rfl, by kernel_rfl, by kernel_rfl, by kernel_rfl, by kernel_rfl, by kernel_rfl, by kernel_rfl⟩
theorem ty122 : tKind Tryz.prog 122 = some (.struct) ∧ tSize Tryz.prog 122 = some 6 ∧ tAgg Tryz.prog 122 = some true ∧ tZero Tryz.prog 122 = some (.agg #[.bool false, .int .i64 0, .string ByteArray.empty, .bool false, .string ByteArray.empty, .int .i64 0]) ∧ tField Tryz.prog 122 0 = some (0, 4) ∧ tField Tryz.prog 122 1 = some (1, 3) ∧ tField Tryz.prog 122 2 = some (2, 9) ∧ tField Tryz.prog 122 3 = some (3, 4) ∧ tField Tryz.prog 122 4 = some (4, 9) ∧ tField Tryz.prog 122 5 = some (5, 3) ∧ tPlaces Tryz.prog 122 = some [(0, 1), (1, 1), (2, 1), (3, 1), (4, 1), (5, 1)] := ⟨by kernel_rfl, by kernel_rfl, by kernel_rfl, by kernel_rfl, by kernel_rfl, by kernel_rfl, by kernel_rfl, by kernel_rfl, by kernel_rfl, by kernel_rfl, by kernel_rfl⟩
theorem ty126 : tKind Tryz.prog 126 = some (.struct) ∧ tSize Tryz.prog 126 = some 3 ∧ tAgg Tryz.prog 126 = some true ∧ tZero Tryz.prog 126 = some (.agg #[.bool false, .int .i64 0, .string ByteArray.empty]) ∧ tField Tryz.prog 126 0 = some (0, 4) ∧ tField Tryz.prog 126 1 = some (1, 3) ∧ tField Tryz.prog 126 2 = some (2, 9) ∧ tPlaces Tryz.prog 126 = some [(0, 1), (1, 1), (2, 1)] := ⟨by kernel_rfl, by kernel_rfl, by kernel_rfl, by kernel_rfl, by kernel_rfl, by kernel_rfl, by kernel_rfl, by kernel_rfl⟩

variable {ro : Nat} {X : FuncId → List Value → AH → ARes → AH → Prop}
set_option maxRecDepth 10000
open Mach (tc)
open Turn (tcl)
def replyV : Option TReply → Value
  | none => .tuple #[.agg #[.bool false, .int .i64 0, .string ⟨#[]⟩], .bool false]
  | some y => .tuple #[.agg #[.bool y.1, .int .i64 y.2.1, .string y.2.2], .bool true]
set_option maxHeartbeats 4000000 in
theorem l4Reply_a (A : AH) (hro : ro ≤ A.size) (w : Int) (s1 : Sl) (v2 : Value) (hv : acells v2 = some [v2]) (l : List ByteArray) (F1 : List Nat) (h1 : SlR A s1 l F1) (hl : l.length ≤ 5000) (htx : ∀ t ∈ l, t.size ≤ 2002) (g : TGlance) (hgz : g.2.2.size < 4611686018427387904) :
    ACalls Tryz.prog ro X 68 [.agg #[.int .i64 w, s1.v, v2], .agg #[.string g.1, .bool g.2.1, .string g.2.2]] A (fun r A' => r = .ret (replyV (replyS w l g)) ∧ Ext A A') := by
  refine ACalls.enterQ (rs := [.cell 4 126, .tmp 5]) Tryz.func68 rfl (by kernel_rfl) rfl ?_
  simp (maxSteps := 2000000) (disch := first | omega | (simp only [AH.size_new, AH.size_put] <;> omega) | fail) only [amR Tryz.prog ro X, amS, seval, reduceCtorEq, ty3, ty4, ty9, ty22, ty27, ty29, ty79, ty110, ty126, hv]
  generalize hH : AH.new (AH.new (AH.new A _) _) _ = H
  have zH : H.size = A.size + 3 := by rw [← hH]; rfl
  have hEH : Ext A H := by rw [← hH]; exact (by ((repeat' (first | exact Ext.refl _ | assumption | refine Ext.trans ?_ (Ext.new _ _) | refine Ext.put ?_ ?_ _ | refine Ext.trans ?_ (by assumption))) <;> (first | omega | (simp only [AH.size_new, AH.size_put] <;> omega))))
  have gst : H.get A.size = .cells [.int .i64 w, s1.v, v2] 3 := by rw [← hH, AH.get_new_other (by simp only [AH.size_new]; omega), AH.get_new_other (by simp only [AH.size_new]; omega)]; exact AH.get_new_self _ _
  have gg : H.get (A.size + 1) = .cells [.string g.1, .bool g.2.1, .string g.2.2] 3 := by rw [← hH, AH.get_new_other (by simp only [AH.size_new]; omega)]; exact AH.get_new_self (A.new _) _
  have ga : H.get (A.size + 2) = .cells [.bool false, .int .i64 0, .string ⟨#[]⟩] 3 := by rw [← hH]; exact AH.get_new_self ((A.new _).new _) _
  clear hH
  have e49 : flagS true = ⟨#[49]⟩ := rfl
  have e48 : flagS false = ⟨#[48]⟩ := rfl
  refine CondB.split (fun h => ?_) (fun h => ?_)
  · have hask : g.2.1 = false := by simpa using h
    refine Wp.runG [4] (by kernel_rfl) (.inl (by kernel_rfl)) ?_
    simp (maxSteps := 2000000) (disch := first | omega | (simp only [AH.size_new, AH.size_put] <;> omega) | fail) only [amR Tryz.prog ro X, amS, seval, reduceCtorEq, ty3, ty4, ty9, ty22, ty27, ty29, ty79, ty110, ty126, gst, gg]
    refine (Sum.spec_a _ (by first | omega | (simp only [AH.size_new, AH.size_put] <;> omega)) ⟨#[49]⟩ w (by decide)).mono ?_
    rintro r H4 ⟨rfl, hE4⟩
    have z4 := hE4.size
    have gst4 := (hE4.get A.size (by omega)).trans gst
    have gg4 := (hE4.get (A.size + 1) (by omega)).trans gg
    have ga4 := (hE4.get (A.size + 2) (by omega)).trans ga
    by_cases k1 : g.2.2 = sumS ⟨#[49]⟩ w
    · have hk : replyS w l g = some (true, 0, ⟨#[]⟩) := by unfold replyS; rw [if_pos hask, e49, if_pos k1]
      rw [hk]
      simp (maxSteps := 2000000) (disch := first | omega | (simp only [AH.size_new, AH.size_put] <;> omega) | fail) only [amR Tryz.prog ro X, amS, seval, reduceCtorEq, ty3, ty4, ty9, ty22, ty27, ty29, ty79, ty110, ty126, k1, ga4, replyV]
      exact ⟨fun b hb => hE4.get b hb, rfl, (hEH.trans hE4).put (by omega) _⟩
    · simp (maxSteps := 2000000) (disch := first | omega | (simp only [AH.size_new, AH.size_put] <;> omega) | fail) only [amR Tryz.prog ro X, amS, seval, reduceCtorEq, ty3, ty4, ty9, ty22, ty27, ty29, ty79, ty110, ty126, k1]
      refine ⟨fun b hb => hE4.get b hb, ?_⟩
      refine WpH (A.size + 2) [5, 7] (by kernel_rfl) (.inl (by kernel_rfl)) ?_
      simp (maxSteps := 2000000) (disch := first | omega | (simp only [AH.size_new, AH.size_put] <;> omega) | fail) only [amX2 Tryz.prog ro X, amX Tryz.prog ro X, amR Tryz.prog ro X, amS, seval, reduceCtorEq, ty3, ty4, ty9, ty22, ty27, ty29, ty79, ty110, ty126, gst4, gg4]
      refine (Sum.spec_a _ (by first | omega | (simp only [AH.size_new, AH.size_put] <;> omega)) ⟨#[48]⟩ w (by decide)).mono ?_
      rintro r H5 ⟨rfl, hE5⟩
      have z5 := hE5.size
      have ga5 := (hE5.get (A.size + 2) (by omega)).trans ga4
      by_cases k2 : g.2.2 = sumS ⟨#[48]⟩ w
      · have hk : replyS w l g = some (false, 0, ⟨#[]⟩) := by unfold replyS; rw [if_pos hask, e49, if_neg k1, e48, if_pos k2]
        rw [hk]
        simp (maxSteps := 2000000) (disch := first | omega | (simp only [AH.size_new, AH.size_put] <;> omega) | fail) only [amX2 Tryz.prog ro X, amX Tryz.prog ro X, amR Tryz.prog ro X, amS, seval, reduceCtorEq, ty3, ty4, ty9, ty22, ty27, ty29, ty79, ty110, ty126, k2, ga5, replyV]
        exact ⟨fun b hb => hE5.get b (by omega), rfl, (hEH.trans (hE4.trans hE5)).put (by omega) _⟩
      · have hk : replyS w l g = none := by unfold replyS; rw [if_pos hask, e49, if_neg k1, e48, if_neg k2]
        rw [hk]
        simp (maxSteps := 2000000) (disch := first | omega | (simp only [AH.size_new, AH.size_put] <;> omega) | fail) only [amX2 Tryz.prog ro X, amX Tryz.prog ro X, amR Tryz.prog ro X, amS, seval, reduceCtorEq, ty3, ty4, ty9, ty22, ty27, ty29, ty79, ty110, ty126, k2, ga5, replyV]
        exact ⟨fun b hb => hE5.get b (by omega), rfl, (hEH.trans (hE4.trans hE5)).put (by omega) _⟩
  · have hask : g.2.1 = true := by simpa using h
    have hna : ¬ g.2.1 = false := by rw [hask]; simp
    simp (maxSteps := 2000000) (disch := first | omega | (simp only [AH.size_new, AH.size_put] <;> omega) | fail) only [amR Tryz.prog ro X, amS, seval, reduceCtorEq, ty3, ty4, ty9, ty22, ty27, ty29, ty79, ty110, ty126, gst, gg]
    refine (Place.l4Get_a _ (by first | omega | (simp only [AH.size_new, AH.size_put] <;> omega)) w s1 v2 hv g.2.2 l F1 (h1.ext hEH) (by omega)).mono ?_
    rintro r H4 ⟨rfl, hE4⟩
    have z4 := hE4.size
    unfold Place.getV
    simp (maxSteps := 2000000) (disch := first | omega | (simp only [AH.size_new, AH.size_put] <;> omega) | fail) only [amR Tryz.prog ro X, amS, seval, reduceCtorEq, ty3, ty4, ty9, ty22, ty27, ty29, ty79, ty110, ty126, hask]
    refine (Vread.spec_a _ (by first | omega | (simp only [AH.size_new, AH.size_put] <;> omega)) _ (by have := Vouch.getD_sz (w := w) (s := g.2.2) htx; omega)).mono ?_
    rintro r H5 ⟨rfl, hE5⟩
    have z5 := hE5.size
    have ga5 := (hE5.get (A.size + 2) (by omega)).trans ((hE4.get (A.size + 2) (by omega)).trans ga)
    have gg5 := (hE5.get (A.size + 1) (by omega)).trans ((hE4.get (A.size + 1) (by omega)).trans gg)
    have hE05 := hEH.trans (hE4.trans hE5)
    cases hget : getR w g.2.2 l with
    | none =>
      have hk : replyS w l g = none := by unfold replyS; rw [if_neg hna, hget]; rfl
      have hnone : (none : Option ByteArray).isSome = false := rfl
      rw [hk, show readT ((none : Option ByteArray).getD ⟨#[]⟩) = none from rfl]
      simp (maxSteps := 2000000) (disch := first | omega | (simp only [AH.size_new, AH.size_put] <;> omega) | fail) only [amR Tryz.prog ro X, amS, seval, reduceCtorEq, ty3, ty4, ty9, ty22, ty27, ty29, ty79, ty110, ty126, Vread.readV, hnone, ga5, replyV]
      exact ⟨rfl, (by ((repeat' (first | exact Ext.refl _ | assumption | refine Ext.trans ?_ (Ext.new _ _) | refine Ext.put ?_ ?_ _ | refine Ext.trans ?_ (by assumption))) <;> (first | omega | (simp only [AH.size_new, AH.size_put] <;> omega))))⟩
    | some tx =>
      have hsome : (some tx : Option ByteArray).isSome = true := rfl
      rw [show ((some tx : Option ByteArray).getD ⟨#[]⟩) = tx from rfl]
      cases hrd : readT tx with
      | none =>
        have hk : replyS w l g = none := by unfold replyS; rw [if_neg hna, hget, show ((some tx : Option ByteArray).getD ⟨#[]⟩) = tx from rfl, hrd]; rfl
        rw [hk]
        simp (maxSteps := 2000000) (disch := first | omega | (simp only [AH.size_new, AH.size_put] <;> omega) | fail) only [amR Tryz.prog ro X, amS, seval, reduceCtorEq, ty3, ty4, ty9, ty22, ty27, ty29, ty79, ty110, ty126, Vread.readV, hsome, ga5, replyV]
        exact ⟨rfl, (by ((repeat' (first | exact Ext.refl _ | assumption | refine Ext.trans ?_ (Ext.new _ _) | refine Ext.put ?_ ?_ _ | refine Ext.trans ?_ (by assumption))) <;> (first | omega | (simp only [AH.size_new, AH.size_put] <;> omega))))⟩
      | some x =>
        have hk : replyS w l g = some (if x.1 = 4 ∧ x.2 = g.1 then (false, 0, ⟨#[]⟩) else (true, x.1, x.2)) := by unfold replyS; rw [if_neg hna, hget, show ((some tx : Option ByteArray).getD ⟨#[]⟩) = tx from rfl, hrd]; rfl
        rw [hk]
        obtain ⟨xc, xt⟩ := x
        by_cases k1 : xc = 4
        · by_cases k2 : xt = g.1
          · rw [if_pos ⟨k1, k2⟩]
            simp (maxSteps := 2000000) (disch := first | omega | (simp only [AH.size_new, AH.size_put] <;> omega) | fail) only [amR Tryz.prog ro X, amS, seval, reduceCtorEq, ty3, ty4, ty9, ty22, ty27, ty29, ty79, ty110, ty126, Vread.readV, hsome, k1, k2, gg5, ga5, replyV]
            exact ⟨rfl, (by ((repeat' (first | exact Ext.refl _ | assumption | refine Ext.trans ?_ (Ext.new _ _) | refine Ext.put ?_ ?_ _ | refine Ext.trans ?_ (by assumption))) <;> (first | omega | (simp only [AH.size_new, AH.size_put] <;> omega))))⟩
          · rw [if_neg (fun h => k2 h.2)]
            simp (maxSteps := 2000000) (disch := first | omega | (simp only [AH.size_new, AH.size_put] <;> omega) | fail) only [amR Tryz.prog ro X, amS, seval, reduceCtorEq, ty3, ty4, ty9, ty22, ty27, ty29, ty79, ty110, ty126, Vread.readV, hsome, k1, k2, gg5, ga5, replyV]
            exact (by ((repeat' (first | exact Ext.refl _ | assumption | refine Ext.trans ?_ (Ext.new _ _) | refine Ext.put ?_ ?_ _ | refine Ext.trans ?_ (by assumption))) <;> (first | omega | (simp only [AH.size_new, AH.size_put] <;> omega))))
        · rw [if_neg (fun h => k1 h.1)]
          simp (maxSteps := 2000000) (disch := first | omega | (simp only [AH.size_new, AH.size_put] <;> omega) | fail) only [amR Tryz.prog ro X, amS, seval, reduceCtorEq, ty3, ty4, ty9, ty22, ty27, ty29, ty79, ty110, ty126, Vread.readV, hsome, k1, gg5, ga5, replyV]
          exact (by ((repeat' (first | exact Ext.refl _ | assumption | refine Ext.trans ?_ (Ext.new _ _) | refine Ext.put ?_ ?_ _ | refine Ext.trans ?_ (by assumption))) <;> (first | omega | (simp only [AH.size_new, AH.size_put] <;> omega))))
set_option maxHeartbeats 4000000 in
theorem l4Vouch_a (A : AH) (hro : ro ≤ A.size) (w : Int) (s1 : Sl) (v2 : Value) (hv : acells v2 = some [v2]) (l : List ByteArray) (F1 : List Nat) (h1 : SlR A s1 l F1) (hl : l.length ≤ 5000) (htx : ∀ t ∈ l, t.size ≤ 2002)
    (cs : Sl) (prog : TProgram) (F : List Nat) (hc : SlR A cs prog F) (hok : ProgOk prog) (ls : Sl) (gs : List TGlance) (G : List Nat) (hg : SlR A ls gs G) (hgl : gs.length ≤ 200) (out : ByteArray) :
    ACalls Tryz.prog ro X 23 [.agg #[.int .i64 w, s1.v, v2], .agg #[cs.v, ls.v, .string out]] A (fun r A' => r = .ret (.int .i64 (vouchS w l (prog, gs, out))) ∧ Ext A A') := by
  have hglen := hg.len
  refine ACalls.enterQ (rs := [.tmp 4]) Tryz.func23 rfl (by kernel_rfl) rfl ?_
  simp (maxSteps := 2000000) (disch := first | omega | (simp only [AH.size_new, AH.size_put] <;> omega) | fail) only [amR Tryz.prog ro X, amS, seval, reduceCtorEq, ty3, ty4, ty9, ty22, ty27, ty29, ty56, ty58, ty59, ty61, ty79, ty110, ty120, ty122, ty126, hv]
  generalize hH : AH.new (AH.new (AH.new A _) _) _ = H
  have zH : H.size = A.size + 3 := by rw [← hH]; rfl
  have hEH : Ext A H := by rw [← hH]; exact (by ((repeat' (first | exact Ext.refl _ | assumption | refine Ext.trans ?_ (Ext.new _ _) | refine Ext.put ?_ ?_ _ | refine Ext.trans ?_ (by assumption))) <;> (first | omega | (simp only [AH.size_new, AH.size_put] <;> omega))))
  have gst : H.get A.size = .cells [.int .i64 w, s1.v, v2] 3 := by rw [← hH, AH.get_new_other (by simp only [AH.size_new]; omega), AH.get_new_other (by simp only [AH.size_new]; omega)]; exact AH.get_new_self _ _
  have gre : H.get (A.size + 1) = .cells [cs.v, ls.v, .string out] 3 := by rw [← hH, AH.get_new_other (by simp only [AH.size_new]; omega)]; exact AH.get_new_self (A.new _) _
  clear hH
  have hcH := hc.ext hEH
  have hgH := hg.ext hEH
  have h1H := h1.ext hEH
  refine Wp.loopC (fun k e H2 => Ext H H2 ∧ e 2 = .pointer (some ⟨A.size, 0, none⟩) ∧ e 3 = .pointer (some ⟨A.size + 1, 0, none⟩) ∧ ∃ (i : Nat) (ys : List TReply) (u : Sl), k = gs.length - i ∧ i ≤ gs.length ∧ ys.length = i ∧ e 5 = u.v ∧ Acc H.size H2 u ys [] ∧ (∀ y ∈ ys, ¬ replyBad y) ∧ vouchGo w l prog out (playR prog (startR prog) ys) (gs.drop i) = vouchS w l (prog, gs, out)) (gs.length - 0) ?_ ?_
  · simp (maxSteps := 2000000) (disch := first | omega | (simp only [AH.size_new, AH.size_put] <;> omega) | fail) only [amV, amH, amQ, amL, amN Tryz.prog, amS, seval, reduceCtorEq, ty3, ty4, ty9, ty22, ty27, ty29, ty56, ty58, ty59, ty61, ty79, ty110, ty120, ty122, ty126]
    exact ⟨Ext.refl _, 0, [], ⟨false, A.size + 1 + 1, 0, 0, 0⟩, rfl, by omega, rfl, rfl, .empty _ _, by simp, by rw [playR_nil]; rfl⟩
  rintro k f H2 ⟨hE2, f2, f3, i, ys, u, rfl, hi, hyl, f5, hacc, hyb, hvg⟩
  have z2 := hE2.size
  have hEA2 := hEH.trans hE2
  have gst2 := (hE2.get A.size (by omega)).trans gst
  have gre2 := (hE2.get (A.size + 1) (by omega)).trans gre
  obtain ⟨Fy, hFy, _⟩ := hacc.slr
  have hulen := hFy.len
  simp (maxSteps := 2000000) (disch := first | omega | (simp only [AH.size_new, AH.size_put] <;> omega) | fail) only [amR Tryz.prog ro X, amS, seval, reduceCtorEq, ty3, ty4, ty9, ty22, ty27, ty29, ty56, ty58, ty59, ty61, ty79, ty110, ty120, ty122, ty126, f2, f3, f5, gre2]
  refine (SpecN.next_a _ (by first | omega | (simp only [AH.size_new, AH.size_put] <;> omega)) cs prog F (hcH.ext hE2) (by have := hok.2.1; omega) u ys Fy hFy (by omega)).mono ?_
  rintro r H3 ⟨rfl, hE3⟩
  have z3 := hE3.size
  rw [nextR_play hok (by omega) hyb]
  have htok : TickOk (playR prog (startR prog) ys) := playR_ok hok ys _ (startR_ok hok) (fun r hr => Nat.le_of_not_lt fun h => hyb r hr (.inl h))
  have hgl0 : (gs.drop i).length = gs.length - i := List.length_drop ..
  generalize ht : playR prog (startR prog) ys = t at *
  have hEA3 := hEA2.trans hE3
  have gst3 := (hE3.get A.size (by omega)).trans gst2
  have gre3 := (hE3.get (A.size + 1) (by omega)).trans gre2
  cases t with
  | go m => exact htok.elim
  | fin c tx st =>
    rw [vouchGo_fin] at hvg
    by_cases j1 : (ys.length : Int) < gs.length
    · rw [if_neg (fun e => by rw [e] at hgl0; simp at hgl0; omega)] at hvg
      simp (maxSteps := 2000000) (disch := first | omega | (simp only [AH.size_new, AH.size_put] <;> omega) | fail) only [amR Tryz.prog ro X, amS, seval, reduceCtorEq, ty3, ty4, ty9, ty22, ty27, ty29, ty56, ty58, ty59, ty61, ty79, ty110, ty120, ty122, ty126, f2, f3, f5, tc, turnOf, gre3, hulen, hglen, j1]
      exact ⟨by rw [← hvg], (by ((repeat' (first | exact Ext.refl _ | assumption | refine Ext.trans ?_ (Ext.new _ _) | refine Ext.put ?_ ?_ _ | refine Ext.trans ?_ (by assumption))) <;> (first | omega | (simp only [AH.size_new, AH.size_put] <;> omega))))⟩
    · rw [if_pos (List.eq_nil_of_length_eq_zero (by omega))] at hvg
      simp (maxSteps := 2000000) (disch := first | omega | (simp only [AH.size_new, AH.size_put] <;> omega) | fail) only [amR Tryz.prog ro X, amS, seval, reduceCtorEq, ty3, ty4, ty9, ty22, ty27, ty29, ty56, ty58, ty59, ty61, ty79, ty110, ty120, ty122, ty126, f2, f3, f5, tc, turnOf, gre3, gst3, hulen, hglen, j1]
      generalize hH4 : AH.put (H3.new _) H3.size _ = H4
      have z4 : H4.size = H3.size + 1 := by rw [← hH4]; rfl
      have hE4 : Ext H3 H4 := by rw [← hH4]; exact (by ((repeat' (first | exact Ext.refl _ | assumption | refine Ext.trans ?_ (Ext.new _ _) | refine Ext.put ?_ ?_ _ | refine Ext.trans ?_ (by assumption))) <;> (first | omega | (simp only [AH.size_new, AH.size_put] <;> omega))))
      have gq4 : H4.get H3.size = .cells [.bool true, .int .i64 c, .string tx, .bool false, .string ⟨#[]⟩, .int .i64 st] 6 := by rw [← hH4]; exact AH.get_put_self _ _ _
      clear hH4
      have hEA4 := hEA3.trans hE4
      refine (Place.l4Get_a _ (by first | omega | (simp only [AH.size_new, AH.size_put] <;> omega)) w s1 v2 hv out l F1 (h1.ext hEA4) (by omega)).mono ?_
      rintro r A5 ⟨rfl, hE5⟩
      have z5 := hE5.size
      have gq5 := (hE5.get H3.size (by omega)).trans gq4
      unfold vouchEnd at hvg
      cases hget : getR w out l with
      | none =>
        rw [hget] at hvg
        rw [show Place.getV none = .tuple #[.string ⟨#[]⟩, .bool false] from rfl]
        simp (maxSteps := 2000000) (disch := first | omega | (simp only [AH.size_new, AH.size_put] <;> omega) | fail) only [amR Tryz.prog ro X, amS, seval, reduceCtorEq, ty3, ty4, ty9, ty22, ty27, ty29, ty56, ty58, ty59, ty61, ty79, ty110, ty120, ty122, ty126]
        exact ⟨by rw [← hvg], hEA4.trans hE5⟩
      | some x =>
        rw [hget] at hvg
        replace hvg : (if x = formR c tx [] then (0 : Int) else 4) = vouchS w l (prog, gs, out) := hvg
        rw [show Place.getV (some x) = .tuple #[.string x, .bool true] from rfl]
        simp (maxSteps := 2000000) (disch := first | omega | (simp only [AH.size_new, AH.size_put] <;> omega) | fail) only [amR Tryz.prog ro X, amS, seval, reduceCtorEq, ty3, ty4, ty9, ty22, ty27, ty29, ty56, ty58, ty59, ty61, ty79, ty110, ty120, ty122, ty126, gq5]
        refine (Form.specForm_a _ (by first | omega | (simp only [AH.size_new, AH.size_put] <;> omega)) c tx .nil [] [] (.nil rfl rfl rfl) (by have := htok.2.2.1; omega)).mono ?_
        rintro r A6 ⟨rfl, hE6⟩
        by_cases j2 : x = formR c tx []
        · rw [if_pos j2] at hvg
          simp (maxSteps := 2000000) (disch := first | omega | (simp only [AH.size_new, AH.size_put] <;> omega) | fail) only [amR Tryz.prog ro X, amS, seval, reduceCtorEq, ty3, ty4, ty9, ty22, ty27, ty29, ty56, ty58, ty59, ty61, ty79, ty110, ty120, ty122, ty126, j2]
          exact ⟨by rw [← hvg], hEA4.trans (hE5.trans hE6)⟩
        · rw [if_neg j2] at hvg
          simp (maxSteps := 2000000) (disch := first | omega | (simp only [AH.size_new, AH.size_put] <;> omega) | fail) only [amR Tryz.prog ro X, amS, seval, reduceCtorEq, ty3, ty4, ty9, ty22, ty27, ty29, ty56, ty58, ty59, ty61, ty79, ty110, ty120, ty122, ty126, j2]
          exact ⟨by rw [← hvg], hEA4.trans (hE5.trans hE6)⟩
  | look a n m =>
    simp (maxSteps := 2000000) (disch := first | omega | (simp only [AH.size_new, AH.size_put] <;> omega) | fail) only [amR Tryz.prog ro X, amS, seval, reduceCtorEq, ty3, ty4, ty9, ty22, ty27, ty29, ty56, ty58, ty59, ty61, ty79, ty110, ty120, ty122, ty126, f2, f3, f5, tc, turnOf, hulen]
    generalize hH4 : AH.put (H3.new _) H3.size _ = H4
    have z4 : H4.size = H3.size + 1 := by rw [← hH4]; rfl
    have hE4 : Ext H3 H4 := by rw [← hH4]; exact (by ((repeat' (first | exact Ext.refl _ | assumption | refine Ext.trans ?_ (Ext.new _ _) | refine Ext.put ?_ ?_ _ | refine Ext.trans ?_ (by assumption))) <;> (first | omega | (simp only [AH.size_new, AH.size_put] <;> omega))))
    have gq4 : H4.get H3.size = .cells [.bool false, .int .i64 0, .string ⟨#[]⟩, .bool a, .string n, .int .i64 m.steps] 6 := by rw [← hH4]; exact AH.get_put_self _ _ _
    clear hH4
    have hEA4 := hEA3.trans hE4
    have gst4 := (hE4.get A.size (by omega)).trans gst3
    have gre4 := (hE4.get (A.size + 1) (by omega)).trans gre3
    refine Wp.runG [] (by kernel_rfl) (.inl (by kernel_rfl)) ?_
    by_cases j0 : (gs.length : Int) ≤ ys.length
    · rw [show gs.drop i = [] from List.drop_eq_nil_of_le (by omega), vouchGo_end] at hvg
      simp (maxSteps := 2000000) (disch := first | omega | (simp only [AH.size_new, AH.size_put] <;> omega) | fail) only [amR Tryz.prog ro X, amS, seval, reduceCtorEq, ty3, ty4, ty9, ty22, ty27, ty29, ty56, ty58, ty59, ty61, ty79, ty110, ty120, ty122, ty126, f2, f3, f5, gq4, gre4, hglen, j0]
      exact ⟨by rw [← hvg], hEA4⟩
    have hil : ys.length < gs.length := by omega
    subst hyl
    obtain ⟨n1, b1, i1, r1, gz1, gz2⟩ := (hg.ext hEA4).glance hil
    have c0 : cellK (ls.o + ys.length * 3) (H4.get ls.b) = some (.string gs[ys.length].1) := by simpa using Vouch.row_cells r1 0 (by omega)
    have c1 := Vouch.row_cells r1 1 (by omega)
    simp only [List.getElem?_cons_succ, List.getElem?_cons_zero] at c1
    rw [List.drop_eq_getElem_cons hil] at hvg
    generalize hgg : gs[ys.length] = g at *
    by_cases j1 : g.1 = n
    case neg =>
      rw [vouchGo_ne (.inl j1)] at hvg
      simp (maxSteps := 2000000) (disch := first | omega | (simp only [AH.size_new, AH.size_put] <;> omega) | fail) only [amR Tryz.prog ro X, amS, seval, reduceCtorEq, ty3, ty4, ty9, ty22, ty27, ty29, ty56, ty58, ty59, ty61, ty79, ty110, ty120, ty122, ty126, f2, f3, f5, gq4, gre4, hglen, j0, n1, b1, i1, c0, c1, j1]
      exact ⟨by rw [← hvg], hEA4⟩
    by_cases j2 : g.2.1 = a
    case neg =>
      rw [vouchGo_ne (.inr j2)] at hvg
      have j2' : (g.2.1 == a) = false := by simpa using j2
      simp (maxSteps := 2000000) (disch := first | omega | (simp only [AH.size_new, AH.size_put] <;> omega) | fail) only [amR Tryz.prog ro X, amS, seval, reduceCtorEq, ty3, ty4, ty9, ty22, ty27, ty29, ty56, ty58, ty59, ty61, ty79, ty110, ty120, ty122, ty126, f2, f3, f5, gq4, gre4, hglen, j0, n1, b1, i1, c0, c1, j1, j2']
      exact ⟨by rw [← hvg], hEA4⟩
    subst j1 j2
    have j2' : (g.2.1 == g.2.1) = true := by simp
    simp (maxSteps := 2000000) (disch := first | omega | (simp only [AH.size_new, AH.size_put] <;> omega) | fail) only [amR Tryz.prog ro X, amS, seval, reduceCtorEq, ty3, ty4, ty9, ty22, ty27, ty29, ty56, ty58, ty59, ty61, ty79, ty110, ty120, ty122, ty126, f2, f3, f5, gq4, gre4, hglen, j0, n1, b1, i1, c0, c1, j2']
    refine Wp.runG [] (by kernel_rfl) (.inr (by intro v e A h; simp only [amK, amQ, thenQ, blockQ, endQ, reduceCtorEq, false_and, exists_false] at h)) ?_
    simp (maxSteps := 2000000) (disch := first | omega | (simp only [AH.size_new, AH.size_put] <;> omega) | fail) only [amR Tryz.prog ro X, amS, seval, reduceCtorEq, ty3, ty4, ty9, ty22, ty27, ty29, ty56, ty58, ty59, ty61, ty79, ty110, ty120, ty122, ty126, f2, f3, f5, gst4, gre4, n1, b1, i1, r1]
    refine (l4Reply_a H4 (by first | omega | (simp only [AH.size_new, AH.size_put] <;> omega)) w s1 v2 hv l F1 (h1.ext hEA4) hl htx g gz2).mono ?_
    rintro r H5 ⟨rfl, hE5⟩
    have z5 := hE5.size
    have hEA5 := hEA4.trans hE5
    obtain ⟨ok1, ok2, ok3⟩ := htok
    cases hy : replyS w l g with
    | none =>
      rw [vouchGo_none (reply_none.1 hy)] at hvg
      simp (maxSteps := 2000000) (disch := first | omega | (simp only [AH.size_new, AH.size_put] <;> omega) | fail) only [amR Tryz.prog ro X, amS, seval, reduceCtorEq, ty3, ty4, ty9, ty22, ty27, ty29, ty56, ty58, ty59, ty61, ty79, ty110, ty120, ty122, ty126, replyV, f2, f3, f5]
      exact ⟨by rw [← hvg], (by ((repeat' (first | exact Ext.refl _ | assumption | refine Ext.trans ?_ (Ext.new _ _) | refine Ext.put ?_ ?_ _ | refine Ext.trans ?_ (by assumption))) <;> (first | omega | (simp only [AH.size_new, AH.size_put] <;> omega))))⟩
    | some y =>
      obtain ⟨y', hy'⟩ : ∃ y', replyR w l g = some y' := by
        cases h : replyR w l g with
        | none => rw [reply_none.2 h] at hy; cases hy
        | some y' => exact ⟨y', rfl⟩
      rw [vouchGo_some hy', ← reply_told hy' hy prog m] at hvg
      have hyb2 := replyS_ok hy
      have hyz : y.2.2.size ≤ 2000 := Nat.le_of_not_lt fun h => hyb2 (.inl h)
      generalize hH6 : AH.put (H5.new (.cells [.bool false, .int .i64 0, .string ByteArray.empty] 3)) H5.size (.cells [.bool y.1, .int .i64 y.2.1, .string y.2.2] 3) = H6
      have z6 : H6.size = H5.size + 1 := by rw [← hH6]; rfl
      have hE6 : Ext H5 H6 := by rw [← hH6]; exact (by ((repeat' (first | exact Ext.refl _ | assumption | refine Ext.trans ?_ (Ext.new _ _) | refine Ext.put ?_ ?_ _ | refine Ext.trans ?_ (by assumption))) <;> (first | omega | (simp only [AH.size_new, AH.size_put] <;> omega))))
      have gy6 : H6.get H5.size = .cells [.bool y.1, .int .i64 y.2.1, .string y.2.2] 3 := by rw [← hH6]; exact AH.get_put_self _ _ _
      have hE26 := hE3.trans (hE4.trans (hE5.trans hE6))
      obtain ⟨u', A8, hap, hs', hgr, hz8, _⟩ := (hacc.ext hE26).lit (P := Tryz.prog) (ro := ro) (t := 120) (n := 1) (vs := [.bool y.1, .int .i64 y.2.1, .string y.2.2]) (xs := [y]) (by omega) (by simp only [ty120]; rfl) rfl (Reps.one (rep_Reply.2 ⟨rfl, rfl, by unfold BIG; omega⟩)) (.inr (by simp)) (by omega) (by omega)
      rw [show Dat.w TReply = 3 from rfl] at hap
      have hE8 : Ext H A8 := hgr.ext (hE2.trans hE26) (Nat.le_refl _)
      simp only [← z6] at *
      simp (maxSteps := 2000000) (disch := first | omega | (simp only [AH.size_new, AH.size_put] <;> omega) | fail) only [amR Tryz.prog ro X, amS, seval, reduceCtorEq, ty3, ty4, ty9, ty22, ty27, ty29, ty56, ty58, ty59, ty61, ty79, ty110, ty120, ty122, ty126, replyV, f2, f3, f5, hH6, gy6, hap]
      refine ⟨gs.length - (ys.length + 1), by omega, hE8, ys.length + 1, ys ++ [y], u', rfl, by omega, by simp, rfl, by simpa using hs', fun z hz => ?_, by rw [playR_snoc ht]; exact hvg⟩
      rcases List.mem_append.1 hz with h | h
      · exact hyb z h
      · rw [List.mem_singleton.1 h]; exact hyb2
end Go.Proofs.YtmelgjblkmbhjaaGreatDoor.Amu.Vspec
