/- A record is vouched for: the implementation. -/
import Derived.Test.YtmelgjblkmbhjaaGreatDoorAmRun
import Derived.Test.YtmelgjblkmbhjaaGreatDoorAmuTurn
import Derived.Test.YtmelgjblkmbhjaaGreatDoorAmuPlace
import Derived.Test.YtmelgjblkmbhjaaGreatDoorAmuStore
import Derived.Test.YtmelgjblkmbhjaaGreatDoorAmuForm
import Derived.Test.YtmelgjblkmbhjaaGreatDoorAmuVread
import Derived.Test.YtmelgjblkmbhjaaGreatDoorAmuSum
namespace Go.Proofs.YtmelgjblkmbhjaaGreatDoor.Amu.Vouch
open Go Go.AM Go.Proofs
set_option linter.unusedVariables false
set_option linter.unusedSimpArgs false
theorem ty3 : tKind Tryz.prog 3 = some (.int .i64) ∧ tSize Tryz.prog 3 = some 1 ∧ tAgg Tryz.prog 3 = some false ∧ tZero Tryz.prog 3 = some (.int .i64 0) := ⟨by kernel_rfl, by kernel_rfl, by kernel_rfl, by kernel_rfl⟩
theorem ty4 : tKind Tryz.prog 4 = some (.bool) ∧ tSize Tryz.prog 4 = some 1 ∧ tAgg Tryz.prog 4 = some false ∧ tZero Tryz.prog 4 = some (.bool false) := ⟨by kernel_rfl, by kernel_rfl, by kernel_rfl, by kernel_rfl⟩
theorem ty9 : tKind Tryz.prog 9 = some (.str) ∧ tSize Tryz.prog 9 = some 1 ∧ tAgg Tryz.prog 9 = some false ∧ tZero Tryz.prog 9 = some (.string ByteArray.empty) := ⟨by kernel_rfl, by kernel_rfl, by kernel_rfl, by kernel_rfl⟩
theorem ty22 : tKind Tryz.prog 22 = some (.slice) ∧ tSize Tryz.prog 22 = some 1 ∧ tAgg Tryz.prog 22 = some false ∧ tZero Tryz.prog 22 = some (.slice none 0 0) ∧ tElem Tryz.prog 22 = some 9 ∧ tElemSize Tryz.prog 22 = some 1 ∧ tBytes Tryz.prog 22 = false := ⟨by kernel_rfl, by kernel_rfl, by kernel_rfl, by kernel_rfl, by kernel_rfl, by kernel_rfl, by kernel_rfl⟩
theorem ty27 : tKind Tryz.prog 27 = some (.slice) ∧ tSize Tryz.prog 27 = some 1 ∧ tAgg Tryz.prog 27 = some false ∧ tZero Tryz.prog 27 = some (.slice none 0 0) ∧ tElem Tryz.prog 27 = some 61 ∧ tElemSize Tryz.prog 27 = some 3 ∧ tBytes Tryz.prog 27 = false := ⟨by kernel_rfl, by kernel_rfl, by kernel_rfl, by kernel_rfl, by kernel_rfl, by kernel_rfl, by kernel_rfl⟩
theorem ty29 : tKind Tryz.prog 29 = some (.struct) ∧ tSize Tryz.prog 29 = some 3 ∧ tAgg Tryz.prog 29 = some true ∧ tZero Tryz.prog 29 = some (.agg #[.int .i64 0, .slice none 0 0, .slice none 0 0]) ∧ tField Tryz.prog 29 0 = some (0, 3) ∧ tField Tryz.prog 29 1 = some (1, 22) ∧ tField Tryz.prog 29 2 = some (2, 27) ∧ tPlaces Tryz.prog 29 = some [(0, 1), (1, 1), (2, 1)] := ⟨by kernel_rfl, by kernel_rfl, by kernel_rfl, by kernel_rfl, by kernel_rfl, by kernel_rfl, by kernel_rfl, by kernel_rfl⟩
theorem ty56 : tKind Tryz.prog 56 = some (.slice) ∧ tSize Tryz.prog 56 = some 1 ∧ tAgg Tryz.prog 56 = some false ∧ tZero Tryz.prog 56 = some (.slice none 0 0) ∧ tElem Tryz.prog 56 = some 106 ∧ tElemSize Tryz.prog 56 = some 3 ∧ tBytes Tryz.prog 56 = false := ⟨by kernel_rfl, by kernel_rfl, by kernel_rfl, by kernel_rfl, by kernel_rfl, by kernel_rfl, by kernel_rfl⟩
theorem ty58 : tKind Tryz.prog 58 = some (.struct) ∧ tSize Tryz.prog 58 = some 1 ∧ tAgg Tryz.prog 58 = some true ∧ tZero Tryz.prog 58 = some (.agg #[.slice none 0 0]) ∧ tField Tryz.prog 58 0 = some (0, 56) ∧ tPlaces Tryz.prog 58 = some [(0, 1)] := ⟨by kernel_rfl, by kernel_rfl, by kernel_rfl, by kernel_rfl, by kernel_rfl, by kernel_rfl⟩
theorem ty59 : tKind Tryz.prog 59 = some (.slice) ∧ tSize Tryz.prog 59 = some 1 ∧ tAgg Tryz.prog 59 = some false ∧ tZero Tryz.prog 59 = some (.slice none 0 0) ∧ tElem Tryz.prog 59 = some 110 ∧ tElemSize Tryz.prog 59 = some 3 ∧ tBytes Tryz.prog 59 = false := ⟨by kernel_rfl, by kernel_rfl, by kernel_rfl, by kernel_rfl, by kernel_rfl, by kernel_rfl, by kernel_rfl⟩
theorem ty61 : tKind Tryz.prog 61 = some (.struct) ∧ tSize Tryz.prog 61 = some 3 ∧ tAgg Tryz.prog 61 = some true ∧ tZero Tryz.prog 61 = some (.agg #[.slice none 0 0, .slice none 0 0, .string ByteArray.empty]) ∧ tField Tryz.prog 61 0 = some (0, 58) ∧ tField Tryz.prog 61 1 = some (1, 59) ∧ tField Tryz.prog 61 2 = some (2, 9) ∧ tPlaces Tryz.prog 61 = some [(0, 1), (1, 1), (2, 1)] := ⟨by kernel_rfl, by kernel_rfl, by kernel_rfl, by kernel_rfl, by kernel_rfl, by kernel_rfl, by kernel_rfl, by kernel_rfl⟩
theorem ty79 : tKind Tryz.prog 79 = some (.struct) ∧ tSize Tryz.prog 79 = some 3 ∧ tAgg Tryz.prog 79 = some true ∧ tZero Tryz.prog 79 = some (.agg #[.int .i64 0, .string ByteArray.empty, .slice none 0 0]) ∧ tField Tryz.prog 79 0 = some (0, 3) ∧ tField Tryz.prog 79 1 = some (1, 9) ∧ tField Tryz.prog 79 2 = some (2, 22) ∧ tPlaces Tryz.prog 79 = some [(0, 1), (1, 1), (2, 1)] := ⟨by kernel_rfl, by kernel_rfl, by kernel_rfl, by kernel_rfl, by kernel_rfl, by kernel_rfl, by kernel_rfl, by kernel_rfl⟩
theorem ty106 : tKind Tryz.prog 106 = some (.struct) ∧ tSize Tryz.prog 106 = some 3 ∧ tAgg Tryz.prog 106 = some true ∧ tZero Tryz.prog 106 = some (.agg #[.int .i64 0, .string ByteArray.empty, .int .i64 0]) ∧ tField Tryz.prog 106 0 = some (0, 3) ∧ tField Tryz.prog 106 1 = some (1, 9) ∧ tField Tryz.prog 106 2 = some (2, 3) ∧ tPlaces Tryz.prog 106 = some [(0, 1), (1, 1), (2, 1)] := ⟨by kernel_rfl, by kernel_rfl, by kernel_rfl, by kernel_rfl, by kernel_rfl, by kernel_rfl, by kernel_rfl, by kernel_rfl⟩
theorem ty110 : tKind Tryz.prog 110 = some (.struct) ∧ tSize Tryz.prog 110 = some 3 ∧ tAgg Tryz.prog 110 = some true ∧ tZero Tryz.prog 110 = some (.agg #[.string ByteArray.empty, .bool false, .string ByteArray.empty]) ∧ tField Tryz.prog 110 0 = some (0, 9) ∧ tField Tryz.prog 110 1 = some (1, 4) ∧ tField Tryz.prog 110 2 = some (2, 9) ∧ tPlaces Tryz.prog 110 = some [(0, 1), (1, 1), (2, 1)] := ⟨by kernel_rfl, by kernel_rfl, by kernel_rfl, by kernel_rfl, by kernel_rfl, by kernel_rfl, by kernel_rfl, by kernel_rfl⟩
theorem ty122 : tKind Tryz.prog 122 = some (.struct) ∧ tSize Tryz.prog 122 = some 6 ∧ tAgg Tryz.prog 122 = some true ∧ tZero Tryz.prog 122 = some (.agg #[.bool false, .int .i64 0, .string ByteArray.empty, .bool false, .string ByteArray.empty, .int .i64 0]) ∧ tField Tryz.prog 122 0 = some (0, 4) ∧ tField Tryz.prog 122 1 = some (1, 3) ∧ tField Tryz.prog 122 2 = some (2, 9) ∧ tField Tryz.prog 122 3 = some (3, 4) ∧ tField Tryz.prog 122 4 = some (4, 9) ∧ tField Tryz.prog 122 5 = some (5, 3) ∧ tPlaces Tryz.prog 122 = some [(0, 1), (1, 1), (2, 1), (3, 1), (4, 1), (5, 1)] := ⟨by kernel_rfl, by kernel_rfl, by kernel_rfl, by kernel_rfl, by kernel_rfl, by kernel_rfl, by kernel_rfl, by kernel_rfl, by kernel_rfl, by kernel_rfl, by kernel_rfl⟩
theorem ty126 : tKind Tryz.prog 126 = some (.struct) ∧ tSize Tryz.prog 126 = some 3 ∧ tAgg Tryz.prog 126 = some true ∧ tZero Tryz.prog 126 = some (.agg #[.bool false, .int .i64 0, .string ByteArray.empty]) ∧ tField Tryz.prog 126 0 = some (0, 4) ∧ tField Tryz.prog 126 1 = some (1, 3) ∧ tField Tryz.prog 126 2 = some (2, 9) ∧ tPlaces Tryz.prog 126 = some [(0, 1), (1, 1), (2, 1)] := ⟨by kernel_rfl, by kernel_rfl, by kernel_rfl, by kernel_rfl, by kernel_rfl, by kernel_rfl, by kernel_rfl, by kernel_rfl⟩
theorem ty133 : tKind Tryz.prog 133 = some (.struct) ∧ tSize Tryz.prog 133 = some 7 ∧ tAgg Tryz.prog 133 = some true ∧ tZero Tryz.prog 133 = some (.agg #[.slice none 0 0, .slice none 0 0, .int .i64 0, .int .i64 0, .int .i64 0, .bool false, .string ByteArray.empty]) ∧ tField Tryz.prog 133 0 = some (0, 56) ∧ tField Tryz.prog 133 1 = some (1, 22) ∧ tField Tryz.prog 133 2 = some (2, 3) ∧ tField Tryz.prog 133 3 = some (3, 3) ∧ tField Tryz.prog 133 4 = some (4, 3) ∧ tField Tryz.prog 133 5 = some (5, 4) ∧ tField Tryz.prog 133 6 = some (6, 9) ∧ tPlaces Tryz.prog 133 = some [(0, 1), (1, 1), (2, 1), (3, 1), (4, 1), (5, 1), (6, 1)] := ⟨by kernel_rfl, by kernel_rfl, by kernel_rfl, by kernel_rfl, by kernel_rfl, by kernel_rfl, by kernel_rfl, by kernel_rfl, by kernel_rfl, by kernel_rfl, by kernel_rfl, by kernel_rfl⟩

variable {ro : Nat} {X : FuncId → List Value → AH → ARes → AH → Prop}
set_option maxRecDepth 10000
open Mach (mc tc)
open Turn (tcl)
theorem getR_mem {w : Int} {s : ByteArray} {l : List ByteArray} {t : ByteArray} (h : getR w s l = some t) : t ∈ l := by
  unfold getR at h
  cases hl : l[plc w s l]? with
  | none => rw [hl] at h; cases h
  | some u =>
    rw [hl] at h
    simp only [Option.bind_some] at h
    split at h
    · cases h; exact List.mem_of_getElem? hl
    · cases h
theorem getD_sz {w : Int} {s : ByteArray} {l : List ByteArray} (h : ∀ t ∈ l, t.size ≤ 2002) : ((getR w s l).getD ⟨#[]⟩).size ≤ 2002 := by
  cases hg : getR w s l with
  | none => show 0 ≤ 2002; omega
  | some t => exact h t (getR_mem hg)
theorem row_cells {A : AH} {b o n : Nat} {cs : List Value} (h : rowK o n (A.get b) = some cs) (j : Nat) (hj : j < n) : cellK (o + j) (A.get b) = cs[j]? := by
  obtain ⟨c, e, h1, h2, h3⟩ := rowK_inv h
  rw [h1]
  exact row_get h3 j hj
set_option maxHeartbeats 4000000 in
theorem vouch_a (A : AH) (hro : ro ≤ A.size) (hT : Tab 0 A) (hP : Pow 6 A) (w : Int) (s1 : Sl) (v2 : Value) (hv : acells v2 = some [v2]) (l : List ByteArray) (F1 : List Nat) (h1 : SlR A s1 l F1) (hR : Rising w l) (hl : l.length ≤ 5000) (htx : ∀ t ∈ l, t.size ≤ 2002)
    (cs : Sl) (prog : TProgram) (F : List Nat) (hc : SlR A cs prog F) (hok : ProgOk prog) (ls : Sl) (gs : List TGlance) (G : List Nat) (hg : SlR A ls gs G) (hgl : gs.length ≤ 200) (out : ByteArray) :
    ACalls Tryz.prog ro X 28 [.agg #[.int .i64 w, s1.v, v2], .agg #[cs.v, ls.v, .string out]] A (fun r A' => r = .ret (.int .i64 (vouchS w l (prog, gs, out))) ∧ Ext A A') := by
  have hglen := hg.len
  refine ACalls.enterQ (rs := [.tmp 4]) Tryz.func28 rfl (by kernel_rfl) rfl ?_
  simp (maxSteps := 2000000) (disch := first | omega | (simp only [AH.size_new, AH.size_put] <;> omega) | fail) only [amR Tryz.prog ro X, amS, seval, reduceCtorEq, ty3, ty4, ty9, ty22, ty27, ty29, ty56, ty58, ty59, ty61, ty79, ty106, ty110, ty122, ty126, ty133, hv]
  generalize hH : AH.new (A.new _) (.cells [cs.v, ls.v, .string out] 3) = H
  have zH : H.size = A.size + 2 := by rw [← hH]; rfl
  have hEH : Ext A H := by rw [← hH]; exact (by ((repeat' (first | exact Ext.refl _ | assumption | refine Ext.trans ?_ (Ext.new _ _) | refine Ext.put ?_ ?_ _ | refine Ext.trans ?_ (by assumption))) <;> (first | omega | (simp only [AH.size_new, AH.size_put] <;> omega))))
  have gst : H.get A.size = .cells [.int .i64 w, s1.v, v2] 3 := by rw [← hH, AH.get_new_other (by simp only [AH.size_new]; omega)]; exact AH.get_new_self _ _
  have gre : H.get (A.size + 1) = .cells [cs.v, ls.v, .string out] 3 := by rw [← hH]; exact AH.get_new_self _ _
  clear hH
  have hpz : A.size + 1 + 1 = H.size := by omega
  rw [hpz]
  generalize hHm : H.new _ = Hm
  have zm : Hm.size = H.size + 1 := by rw [← hHm]; rfl
  have hEm : Ext H Hm := by rw [← hHm]; exact Ext.new _ _
  have gm : Hm.get H.size = .cells (mc cs .nil 0 0 0 false ByteArray.empty) 7 := by rw [← hHm]; exact AH.get_new_self _ _
  clear hHm
  have hTH := hT.ext hEH
  have hPH := hP.ext hEH
  have hcH := hc.ext hEH
  have hgH := hg.ext hEH
  have hpF : H.size ∉ F := fun h => by have := hcH.bound _ h; omega
  refine (Mach.run_a (lo := H.size) _ (by first | omega | (simp only [AH.size_new, AH.size_put] <;> omega)) (hTH.ext hEm) (hPH.ext hEm) H.size (by omega) (by omega) (by omega) (by omega) cs prog F (hcH.ext hEm) hpF hok m0 m0_ok .nil .nil (.inl rfl) false ByteArray.empty gm).mono ?_
  rintro R Hr ⟨rfl, hXr, hlook⟩
  have zr := hXr.size
  have hEr : Ext H Hr := ⟨by omega, fun b hb => (hXr.get b (by omega) (by simp; omega)).trans (hEm.get b hb)⟩
  have hstart : runR prog m0 = startR prog := rfl
  rw [hstart] at hlook
  rw [hstart]
  have gre0 := (hEr.get (A.size + 1) (by omega)).trans gre
  simp (maxSteps := 2000000) (disch := first | omega | (simp only [AH.size_new, AH.size_put] <;> omega) | fail) only [amR Tryz.prog ro X, amS, seval, reduceCtorEq, ty3, ty4, ty9, ty22, ty27, ty29, ty56, ty58, ty59, ty61, ty79, ty106, ty110, ty122, ty126, ty133, tc, gre0]
  generalize hHt : AH.put (AH.new Hr _) Hr.size _ = Ht
  have zt : Ht.size = Hr.size + 1 := by rw [← hHt]; rfl
  have hEt : Ext Hr Ht := by rw [← hHt]; exact (by ((repeat' (first | exact Ext.refl _ | assumption | refine Ext.trans ?_ (Ext.new _ _) | refine Ext.put ?_ ?_ _ | refine Ext.trans ?_ (by assumption))) <;> (first | omega | (simp only [AH.size_new, AH.size_put] <;> omega))))
  have gq : Ht.get Hr.size = .cells (tcl (turnOf (startR prog))) 6 := by rw [← hHt]; exact AH.get_put_self _ _ _
  have gret := (hEt.get (A.size + 1) (by omega)).trans gre0
  clear hHt
  generalize hq : Hr.size = q
  rw [hq] at gq zt
  refine Wp.loopC (fun k e H2 => Ext H H2 ∧ e 2 = .pointer (some ⟨A.size, 0, none⟩) ∧ e 3 = .pointer (some ⟨A.size + 1, 0, none⟩) ∧ e 5 = .pointer (some ⟨H.size, 0, none⟩) ∧ e 6 = .pointer (some ⟨q, 0, none⟩) ∧ ∃ (gj : List TGlance) (u : Sl) (Fu : List Nat), k = gj.length ∧ gj.length ≤ 200 ∧ e 7 = u.v ∧ SlR H u gj Fu ∧ ∃ t, TickOk t ∧ vouchGo w l prog out t gj = vouchS w l (prog, gs, out) ∧ q < H2.size ∧ H2.get q = .cells (tcl (turnOf t)) 6 ∧ ∀ a n m, t = .look a n m → ∃ s, H2.get H.size = .cells (mc cs s m.pc m.steps m.looks a n) 7 ∧ Stk H.size H2 s m.st ∧ (s.nl = true ∨ s.b ≠ H.size)) gs.length ?_ ?_
  · simp (maxSteps := 2000000) (disch := first | omega | (simp only [AH.size_new, AH.size_put] <;> omega) | fail) only [amV, amH, amQ, amL, amN Tryz.prog, amS, seval, reduceCtorEq, ty3, ty4, ty9, ty22, ty27, ty29, ty56, ty58, ty59, ty61, ty79, ty106, ty110, ty122, ty126, ty133]
    refine ⟨hEr.trans hEt, gs, ls, G, rfl, hgl, rfl, hgH, startR prog, startR_ok hok, rfl, by omega, gq, fun a n m h => ?_⟩
    obtain ⟨s', q1, q2, q3, _⟩ := hlook a n m h
    exact ⟨s', (hEt.get _ (by omega)).trans q1, q2.ext hEt, q3⟩
  rintro k f H2 ⟨hE2, f2, f3, f5, f6, gj, u, Fu, rfl, hgj, f7, hu, t, hok2, hvg, hqs, gq2, hlk⟩
  have z2 := hE2.size
  have hEA2 := hEH.trans hE2
  have gq3 := gq2
  unfold tcl at gq3
  have gst2 := (hE2.get A.size (by omega)).trans gst
  have gre2 := (hE2.get (A.size + 1) (by omega)).trans gre
  have hulen := hu.len
  cases t with
  | go m => exact hok2.elim
  | fin c tx st =>
    simp only [turnOf] at gq3
    rw [vouchGo_fin] at hvg
    by_cases j1 : (0 : Int) < gj.length
    · rw [if_neg (fun e => by rw [e] at j1; simp at j1)] at hvg
      simp (maxSteps := 2000000) (disch := first | omega | (simp only [AH.size_new, AH.size_put] <;> omega) | fail) only [amR Tryz.prog ro X, amS, seval, reduceCtorEq, ty3, ty4, ty9, ty22, ty27, ty29, ty56, ty58, ty59, ty61, ty79, ty106, ty110, ty122, ty126, ty133, f2, f3, f5, f6, f7, gq3, hulen, j1]
      exact ⟨by rw [← hvg], hEA2⟩
    · have hnil : gj = [] := List.eq_nil_of_length_eq_zero (by omega)
      subst hnil
      rw [if_pos rfl] at hvg
      simp (maxSteps := 2000000) (disch := first | omega | (simp only [AH.size_new, AH.size_put] <;> omega) | fail) only [amR Tryz.prog ro X, amS, seval, reduceCtorEq, ty3, ty4, ty9, ty22, ty27, ty29, ty56, ty58, ty59, ty61, ty79, ty106, ty110, ty122, ty126, ty133, f2, f3, f5, f6, f7, gq3, hulen, gst2, gre2]
      refine (Place.get_a _ (by first | omega | (simp only [AH.size_new, AH.size_put] <;> omega)) w s1 v2 hv out l F1 (h1.ext hEA2) hR (by omega)).mono ?_
      rintro r A3 ⟨rfl, hE3⟩
      have z3 := hE3.size
      have gq4 := (hE3.get q hqs).trans gq3
      unfold vouchEnd at hvg
      cases hget : getR w out l with
      | none =>
        rw [hget] at hvg
        rw [show Place.getV none = .tuple #[.string ⟨#[]⟩, .bool false] from rfl]
        simp (maxSteps := 2000000) (disch := first | omega | (simp only [AH.size_new, AH.size_put] <;> omega) | fail) only [amR Tryz.prog ro X, amS, seval, reduceCtorEq, ty3, ty4, ty9, ty22, ty27, ty29, ty56, ty58, ty59, ty61, ty79, ty106, ty110, ty122, ty126, ty133, f6]
        exact ⟨by rw [← hvg], hEA2.trans hE3⟩
      | some x =>
        rw [hget] at hvg
        replace hvg : (if x = formR c tx [] then (0 : Int) else 4) = vouchS w l (prog, gs, out) := hvg
        rw [show Place.getV (some x) = .tuple #[.string x, .bool true] from rfl]
        simp (maxSteps := 2000000) (disch := first | omega | (simp only [AH.size_new, AH.size_put] <;> omega) | fail) only [amR Tryz.prog ro X, amS, seval, reduceCtorEq, ty3, ty4, ty9, ty22, ty27, ty29, ty56, ty58, ty59, ty61, ty79, ty106, ty110, ty122, ty126, ty133, f6, gq4]
        refine (Form.implForm_a _ (by first | omega | (simp only [AH.size_new, AH.size_put] <;> omega)) c tx .nil [] [] (.nil rfl rfl rfl) (by have := hok2.2.2.1; omega)).mono ?_
        rintro r A4 ⟨rfl, hE4⟩
        by_cases j2 : x = formR c tx []
        · rw [if_pos j2] at hvg
          simp (maxSteps := 2000000) (disch := first | omega | (simp only [AH.size_new, AH.size_put] <;> omega) | fail) only [amR Tryz.prog ro X, amS, seval, reduceCtorEq, ty3, ty4, ty9, ty22, ty27, ty29, ty56, ty58, ty59, ty61, ty79, ty106, ty110, ty122, ty126, ty133, j2]
          exact ⟨by rw [← hvg], hEA2.trans (hE3.trans hE4)⟩
        · rw [if_neg j2] at hvg
          simp (maxSteps := 2000000) (disch := first | omega | (simp only [AH.size_new, AH.size_put] <;> omega) | fail) only [amR Tryz.prog ro X, amS, seval, reduceCtorEq, ty3, ty4, ty9, ty22, ty27, ty29, ty56, ty58, ty59, ty61, ty79, ty106, ty110, ty122, ty126, ty133, j2]
          exact ⟨by rw [← hvg], hEA2.trans (hE3.trans hE4)⟩
  | look a n m =>
    simp only [turnOf] at gq3
    simp (maxSteps := 2000000) (disch := first | omega | (simp only [AH.size_new, AH.size_put] <;> omega) | fail) only [amR Tryz.prog ro X, amS, seval, reduceCtorEq, ty3, ty4, ty9, ty22, ty27, ty29, ty56, ty58, ty59, ty61, ty79, ty106, ty110, ty122, ty126, ty133, f2, f3, f5, f6, f7, gq3, hulen]
    refine Wp.runG [] (by kernel_rfl) (.inl (by kernel_rfl)) ?_
    cases gj with
    | nil =>
      rw [vouchGo_end] at hvg
      have hu0 : u.len = 0 := hulen
      simp (maxSteps := 2000000) (disch := first | omega | (simp only [AH.size_new, AH.size_put] <;> omega) | fail) only [amR Tryz.prog ro X, amS, seval, reduceCtorEq, ty3, ty4, ty9, ty22, ty27, ty29, ty56, ty58, ty59, ty61, ty79, ty106, ty110, ty122, ty126, ty133, f2, f3, f5, f6, f7, gq3, hu0]
      exact ⟨by rw [← hvg], hEA2⟩
    | cons g gr =>
    have hu1 : u.len = gr.length + 1 := hulen
    have hz1 : ¬ ((gr.length + 1 : Nat) : Int) = 0 := by omega
    obtain ⟨n1, b1, i1, r1, gz1, gz2⟩ := (hu.ext hE2).glance (i := 0) (by simp)
    simp only [List.getElem_cons_zero, Nat.zero_mul, Nat.add_zero] at r1 gz1 gz2
    have c0 : cellK u.o (H2.get u.b) = some (.string g.1) := by simpa using row_cells r1 0 (by omega)
    have c1 := row_cells r1 1 (by omega)
    have c2 := row_cells r1 2 (by omega)
    simp only [List.getElem?_cons_succ, List.getElem?_cons_zero] at c1 c2
    by_cases j1 : g.1 = n
    case neg =>
      rw [vouchGo_ne (.inl j1)] at hvg
      simp (maxSteps := 2000000) (disch := first | omega | (simp only [AH.size_new, AH.size_put] <;> omega) | fail) only [amR Tryz.prog ro X, amS, seval, reduceCtorEq, ty3, ty4, ty9, ty22, ty27, ty29, ty56, ty58, ty59, ty61, ty79, ty106, ty110, ty122, ty126, ty133, f2, f3, f5, f6, f7, gq3, hu1, hz1, n1, b1, i1, c0, c1, c2, j1]
      exact ⟨by rw [← hvg], hEA2⟩
    by_cases j2 : g.2.1 = a
    case neg =>
      rw [vouchGo_ne (.inr j2)] at hvg
      have j2' : (g.2.1 == a) = false := by simpa using j2
      simp (maxSteps := 2000000) (disch := first | omega | (simp only [AH.size_new, AH.size_put] <;> omega) | fail) only [amR Tryz.prog ro X, amS, seval, reduceCtorEq, ty3, ty4, ty9, ty22, ty27, ty29, ty56, ty58, ty59, ty61, ty79, ty106, ty110, ty122, ty126, ty133, f2, f3, f5, f6, f7, gq3, hu1, hz1, n1, b1, i1, c0, c1, c2, j1, j2']
      exact ⟨by rw [← hvg], hEA2⟩
    subst j1 j2
    have j2' : (g.2.1 == g.2.1) = true := by simp
    obtain ⟨u', Fu', hu1', hu2', hu3'⟩ := (hu.ext hE2).from (P := Tryz.prog) (t := 59) (by simp only [ty59]; rfl) (i := 1) (by simp)
    replace hu1' : ∀ k : IntKind, aSlice Tryz.prog H2 59 u.v (some (.int k 1)) none none = some u'.v := hu1'
    obtain ⟨_, _, hsl0⟩ := (show ∃ s : Sl, H2.get H.size = .cells (mc cs s m.pc m.steps m.looks g.2.1 g.1) 7 ∧ Stk H.size H2 s m.st ∧ (s.nl = true ∨ s.b ≠ H.size) from hlk _ _ _ rfl)
    simp (maxSteps := 2000000) (disch := first | omega | (simp only [AH.size_new, AH.size_put] <;> omega) | fail) only [amR Tryz.prog ro X, amS, seval, reduceCtorEq, ty3, ty4, ty9, ty22, ty27, ty29, ty56, ty58, ty59, ty61, ty79, ty106, ty110, ty122, ty126, ty133, f2, f3, f5, f6, f7, gq3, hu1, hz1, n1, b1, i1, c0, c1, c2, hu1', j2']
    generalize hH3 : H2.new _ = H3
    have z3 : H3.size = H2.size + 1 := by rw [← hH3]; rfl
    have hE3 : Ext H2 H3 := by rw [← hH3]; exact Ext.new _ _
    have ga3 : H3.get H2.size = .cells [.bool false, .int .i64 0, .string ⟨#[]⟩] 3 := by rw [← hH3]; exact AH.get_new_self _ _
    clear hH3
    have hEA3 := hEA2.trans hE3
    have gq4 := (hE3.get q hqs).trans gq3
    have gst3 := (hE3.get A.size (by omega)).trans gst2
    refine condCutN (fun e' A' => e' 2 = .pointer (some ⟨A.size, 0, none⟩) ∧ e' 3 = .pointer (some ⟨A.size + 1, 0, none⟩) ∧ e' 5 = .pointer (some ⟨H.size, 0, none⟩) ∧ e' 6 = .pointer (some ⟨q, 0, none⟩) ∧ e' 7 = u'.v ∧ e' 9 = .pointer (some ⟨H2.size, 0, none⟩) ∧ Ext H2 A' ∧ H2.size < A'.size ∧ ∃ y, replyR w l g = some y ∧ A'.get H2.size = .cells [.bool y.1, .int .i64 y.2.1, .string y.2.2] 3) ?_ ?_
    · cases hask : g.2.1 with
      | false =>
        have e49 : flagS true = ⟨#[49]⟩ := rfl
        have e48 : flagS false = ⟨#[48]⟩ := rfl
        simp (maxSteps := 2000000) (disch := first | omega | (simp only [AH.size_new, AH.size_put] <;> omega) | fail) only [amR Tryz.prog ro X, amS, seval, reduceCtorEq, ty3, ty4, ty9, ty22, ty27, ty29, ty56, ty58, ty59, ty61, ty79, ty106, ty110, ty122, ty126, ty133, f2, f3, f5, f6, gst3]
        refine (Sum.impl_a _ (by first | omega | (simp only [AH.size_new, AH.size_put] <;> omega)) ⟨#[49]⟩ w (by decide)).mono ?_
        rintro r H4 ⟨rfl, hE4⟩
        have z4 := hE4.size
        have ga4 := (hE4.get H2.size (by omega)).trans ga3
        have gst4 := (hE4.get A.size (by omega)).trans gst3
        by_cases k1 : g.2.2 = sumS ⟨#[49]⟩ w
        · simp (maxSteps := 2000000) (disch := first | omega | (simp only [AH.size_new, AH.size_put] <;> omega) | fail) only [amR Tryz.prog ro X, amS, seval, reduceCtorEq, ty3, ty4, ty9, ty22, ty27, ty29, ty56, ty58, ty59, ty61, ty79, ty106, ty110, ty122, ty126, ty133, f2, f3, f5, f6, k1, ga4]
          exact ⟨(hE3.trans hE4).put (Nat.le_refl _) _, by omega, (true, 0, ⟨#[]⟩), by unfold replyR; rw [if_pos hask, e49, if_pos k1], rfl⟩
        · simp (maxSteps := 2000000) (disch := first | omega | (simp only [AH.size_new, AH.size_put] <;> omega) | fail) only [amR Tryz.prog ro X, amS, seval, reduceCtorEq, ty3, ty4, ty9, ty22, ty27, ty29, ty56, ty58, ty59, ty61, ty79, ty106, ty110, ty122, ty126, ty133, f2, f3, f5, f6, k1, gst4]
          refine (Sum.impl_a _ (by first | omega | (simp only [AH.size_new, AH.size_put] <;> omega)) ⟨#[48]⟩ w (by decide)).mono ?_
          rintro r H5 ⟨rfl, hE5⟩
          have z5 := hE5.size
          have ga5 := (hE5.get H2.size (by omega)).trans ga4
          by_cases k2 : g.2.2 = sumS ⟨#[48]⟩ w
          · have hk2 : replyR w l g = some (false, 0, ⟨#[]⟩) := by unfold replyR; rw [if_pos hask, e49, if_neg k1, e48, if_pos k2]
            simp (maxSteps := 2000000) (disch := first | omega | (simp only [AH.size_new, AH.size_put] <;> omega) | fail) only [amR Tryz.prog ro X, amS, seval, reduceCtorEq, ty3, ty4, ty9, ty22, ty27, ty29, ty56, ty58, ty59, ty61, ty79, ty106, ty110, ty122, ty126, ty133, f2, f3, f5, f6, k2, ga5]
            exact ⟨hE3.trans (hE4.trans hE5), by omega, _, hk2, rfl⟩
          · have hk2 : replyR w l g = none := by unfold replyR; rw [if_pos hask, e49, if_neg k1, e48, if_neg k2]
            rw [vouchGo_none hk2] at hvg
            simp (maxSteps := 2000000) (disch := first | omega | (simp only [AH.size_new, AH.size_put] <;> omega) | fail) only [amR Tryz.prog ro X, amS, seval, reduceCtorEq, ty3, ty4, ty9, ty22, ty27, ty29, ty56, ty58, ty59, ty61, ty79, ty106, ty110, ty122, ty126, ty133, f2, f3, f5, f6, k2]
            exact ⟨by rw [← hvg], hEA3.trans (hE4.trans hE5)⟩
      | true =>
        have hna : ¬ g.2.1 = false := by rw [hask]; simp
        simp (maxSteps := 2000000) (disch := first | omega | (simp only [AH.size_new, AH.size_put] <;> omega) | fail) only [amR Tryz.prog ro X, amS, seval, reduceCtorEq, ty3, ty4, ty9, ty22, ty27, ty29, ty56, ty58, ty59, ty61, ty79, ty106, ty110, ty122, ty126, ty133, f2, f3, f5, f6, gst3]
        refine (Place.get_a _ (by first | omega | (simp only [AH.size_new, AH.size_put] <;> omega)) w s1 v2 hv g.2.2 l F1 (h1.ext hEA3) hR (by omega)).mono ?_
        rintro r H4 ⟨rfl, hE4⟩
        have z4 := hE4.size
        unfold Place.getV
        simp (maxSteps := 2000000) (disch := first | omega | (simp only [AH.size_new, AH.size_put] <;> omega) | fail) only [amR Tryz.prog ro X, amS, seval, reduceCtorEq, ty3, ty4, ty9, ty22, ty27, ty29, ty56, ty58, ty59, ty61, ty79, ty106, ty110, ty122, ty126, ty133, f2, f3, f5, f6]
        refine (Vread.impl_a _ (by first | omega | (simp only [AH.size_new, AH.size_put] <;> omega)) _ (by have := getD_sz (w := w) (s := g.2.2) htx; omega)).mono ?_
        rintro r H5 ⟨rfl, hE5⟩
        have z5 := hE5.size
        have ga5 := (hE5.get H2.size (by omega)).trans ((hE4.get H2.size (by omega)).trans ga3)
        have gq5 := (hE5.get q (by omega)).trans ((hE4.get q (by omega)).trans gq4)
        have hE35 := hE3.trans (hE4.trans hE5)
        cases hrd : readT ((getR w g.2.2 l).getD ⟨#[]⟩) with
        | none =>
          have hk2 : replyR w l g = none := by unfold replyR; rw [if_neg hna, hrd]; rfl
          rw [vouchGo_none hk2] at hvg
          simp (maxSteps := 2000000) (disch := first | omega | (simp only [AH.size_new, AH.size_put] <;> omega) | fail) only [amR Tryz.prog ro X, amS, seval, reduceCtorEq, ty3, ty4, ty9, ty22, ty27, ty29, ty56, ty58, ty59, ty61, ty79, ty106, ty110, ty122, ty126, ty133, f2, f3, f5, f6, Vread.readV]
          exact ⟨by rw [← hvg], (by ((repeat' (first | exact Ext.refl _ | assumption | refine Ext.trans ?_ (Ext.new _ _) | refine Ext.put ?_ ?_ _ | refine Ext.trans ?_ (by assumption))) <;> (first | omega | (simp only [AH.size_new, AH.size_put] <;> omega))))⟩
        | some x =>
          have hk2 : replyR w l g = some (decide (x.1 ≠ 4 ∨ x.2 ≠ g.1), x.1, x.2) := by unfold replyR; rw [if_neg hna, hrd]; rfl
          obtain ⟨xc, xt⟩ := x
          simp only at hk2
          by_cases k1 : xc = 4
          · by_cases k2 : xt = g.1
            · have hd : decide (xc ≠ 4 ∨ xt ≠ g.1) = false := decide_eq_false (by rintro (h | h); exact h k1; exact h k2)
              rw [hd] at hk2
              simp (maxSteps := 2000000) (disch := first | omega | (simp only [AH.size_new, AH.size_put] <;> omega) | fail) only [amR Tryz.prog ro X, amS, seval, reduceCtorEq, ty3, ty4, ty9, ty22, ty27, ty29, ty56, ty58, ty59, ty61, ty79, ty106, ty110, ty122, ty126, ty133, f2, f3, f5, f6, Vread.readV, k1, k2, gq5, ga5]
              exact ⟨(by ((repeat' (first | exact Ext.refl _ | assumption | refine Ext.trans ?_ (Ext.new _ _) | refine Ext.put ?_ ?_ _ | refine Ext.trans ?_ (by assumption))) <;> (first | omega | (simp only [AH.size_new, AH.size_put] <;> omega)))), by omega, _, hk2, by rw [k1, k2]⟩
            · have hd : decide (xc ≠ 4 ∨ xt ≠ g.1) = true := decide_eq_true (.inr k2)
              rw [hd] at hk2
              simp (maxSteps := 2000000) (disch := first | omega | (simp only [AH.size_new, AH.size_put] <;> omega) | fail) only [amR Tryz.prog ro X, amS, seval, reduceCtorEq, ty3, ty4, ty9, ty22, ty27, ty29, ty56, ty58, ty59, ty61, ty79, ty106, ty110, ty122, ty126, ty133, f2, f3, f5, f6, Vread.readV, k1, k2, gq5, ga5]
              exact ⟨(by ((repeat' (first | exact Ext.refl _ | assumption | refine Ext.trans ?_ (Ext.new _ _) | refine Ext.put ?_ ?_ _ | refine Ext.trans ?_ (by assumption))) <;> (first | omega | (simp only [AH.size_new, AH.size_put] <;> omega)))), by omega, _, hk2, by rw [k1]⟩
          · have hd : decide (xc ≠ 4 ∨ xt ≠ g.1) = true := decide_eq_true (.inl k1)
            rw [hd] at hk2
            simp (maxSteps := 2000000) (disch := first | omega | (simp only [AH.size_new, AH.size_put] <;> omega) | fail) only [amR Tryz.prog ro X, amS, seval, reduceCtorEq, ty3, ty4, ty9, ty22, ty27, ty29, ty56, ty58, ty59, ty61, ty79, ty106, ty110, ty122, ty126, ty133, f2, f3, f5, f6, Vread.readV, k1, gq5, ga5]
            exact ⟨(by ((repeat' (first | exact Ext.refl _ | assumption | refine Ext.trans ?_ (Ext.new _ _) | refine Ext.put ?_ ?_ _ | refine Ext.trans ?_ (by assumption))) <;> (first | omega | (simp only [AH.size_new, AH.size_put] <;> omega)))), by omega, _, hk2, rfl⟩
    · rintro e4 H4 ⟨f2, f3, f5, f6, f7, f9, hE4, z4, y, hy, ga4⟩
      have hbad := replyR_ok hy
      have hyz : y.2.2.size ≤ 2000 := Nat.le_of_not_lt fun h => hbad (.inl h)
      rw [vouchGo_some hy] at hvg
      obtain ⟨s', q1, q2, q3⟩ := hlk _ _ _ rfl
      obtain ⟨ok1, ok2, ok3⟩ := hok2
      have q2' := q2.ext hE4
      have hgq4 := (hE4.get q hqs).trans gq2
      simp (maxSteps := 2000000) (disch := first | omega | (simp only [AH.size_new, AH.size_put] <;> omega) | fail) only [amR Tryz.prog ro X, amS, seval, reduceCtorEq, ty3, ty4, ty9, ty22, ty27, ty29, ty56, ty58, ty59, ty61, ty79, ty106, ty110, ty122, ty126, ty133, f5, f6, f9, ga4]
      refine (Turn.told_a H _ (by omega) (hE2.trans hE4) hTH hPH H.size (Nat.le_refl _) (by omega) cs prog F hcH hok m ok2 ok3 s' q2' q3 g.2.1 g.1 ((hE4.get _ (by omega)).trans q1) y hyz).mono ?_
      rintro R H5 ⟨rfl, hE5, z5, k5, hlk5⟩
      have gq5 := (k5 q (by omega) (by omega) (Turn.stk_ne q2' (by decide) hgq4)).trans hgq4
      have gq6 := gq5
      unfold tcl at gq6
      simp only [turnOf] at gq6
      have hz5 := hE5.size
      simp (maxSteps := 2000000) (disch := first | omega | (simp only [AH.size_new, AH.size_put] <;> omega) | fail) only [amR Tryz.prog ro X, amS, seval, reduceCtorEq, ty3, ty4, ty9, ty22, ty27, ty29, ty56, ty58, ty59, ty61, ty79, ty106, ty110, ty122, ty126, ty133, f2, f3, f5, f6, f7, tc, gq6]
      simp only [List.length_cons] at hgj
      refine ⟨gr.length, by simp, hE5.put (by omega) _, gr, u', Fu', rfl, by omega, rfl, ?_, toldR prog g.2.1 g.1 m y, toldR_ok hok (show TickOk (.look g.2.1 g.1 m) from ⟨ok1, ok2, ok3⟩) hyz, hvg, by omega, rfl, fun a' n' m' h => ?_⟩
      · exact (show SlR H2 u' gr Fu' from hu2').frame fun b hb => by
          have hb2 := hu.bound b (hu3' b hb)
          exact ⟨(hE2.get b hb2).symm, hb2⟩
      · obtain ⟨s4, r1', r2', r3'⟩ := hlk5 a' n' m' h
        exact ⟨s4, r1', r2'.frame (by simp only [AH.size_put]; omega) (fun hn => AH.get_put_other (by rcases Turn.stk_ne r2' (by decide) gq5 with h | h; rw [h] at hn; cases hn; exact Ne.symm h)), r3'⟩
end Go.Proofs.YtmelgjblkmbhjaaGreatDoor.Amu.Vouch
