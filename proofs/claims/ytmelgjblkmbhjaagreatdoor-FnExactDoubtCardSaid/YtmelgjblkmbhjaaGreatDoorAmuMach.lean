import Derived.Test.YtmelgjblkmbhjaaGreatDoorAmuTy
import Derived.Test.YtmelgjblkmbhjaaGreatDoorAmRun
import Derived.Test.YtmelgjblkmbhjaaGreatDoorAmuItoa
import Derived.Test.YtmelgjblkmbhjaaGreatDoorAmuStore
import Derived.Test.YtmelgjblkmbhjaaGreatDoorAmuProg
namespace Go.Proofs.YtmelgjblkmbhjaaGreatDoor.Amu.Mach
open Go Go.AM Go.Proofs
set_option linter.all false
open Ty
variable {ro : Nat} {X : FuncId → List Value → AH → ARes → AH → Prop}
set_option maxRecDepth 10000
theorem digit_a (A : AH) (b : Bool) : ACalls Tryz.prog ro X 133 [.bool b] A (fun r A' => r = .ret (.string (flagS b)) ∧ A' = A) := by
 refine ACalls.enterQ (rs := [.tmp 2]) Tryz.func133 rfl (by kernel_rfl) rfl ?_
 cases b
 ·simp (disch := first | omega | fail) only [amR Tryz.prog ro X, amS, seval, reduceCtorEq]
  rfl
 ·simp (disch := first | omega | fail) only [amR Tryz.prog ro X, amS, seval, reduceCtorEq]
  rfl
def fromI : Option Nat → Int
 | none => -1
 | some f => f
theorem wordOf_a (A : AH) (hro : ro ≤ A.size) (s : ByteArray) (hs : s.size ≤ 2000) (n : Nat) (hn : n ≤ 2000) : ACalls Tryz.prog ro X 132 [.string s, .int .i64 n] A (fun r A' => r = .ret (.string (wordR s n)) ∧ Ext A A') := by
 refine ACalls.enterQ (rs := [.tmp 4]) Tryz.func132 rfl (by kernel_rfl) rfl ?_
 simp (disch := first | omega | fail) only [amR Tryz.prog ro X, amS, seval, reduceCtorEq, ty3, ty4, ty5, ty9, ty22]
 refine Wp.loopC (fun k e A' => Ext A A' ∧ e 0 = .string s ∧ e 1 = .int .i64 n ∧ ∃ i : Nat, i ≤ s.size + 1 ∧ k = s.size + 1 - i ∧ e 7 = .int .i64 i ∧ ∃ o, e 6 = .int .i64 (fromI o) ∧ (∀ f, o = some f → f ≤ i) ∧ ∃ u l, e 5 = u.v ∧ Acc A.size A' u l [] ∧ l.length ≤ i ∧ l ++ piecesR s i o = piecesR s 0 none) (s.size + 1 - 0) ?_ ?_
 ·simp (disch := first | omega | fail) only [amV, amH, amQ, amL, amN Tryz.prog, amS, seval, reduceCtorEq, ty3, ty4, ty5, ty9, ty22]
  exact ⟨Ext.refl _, 0, by omega, rfl, rfl, none, rfl, (by intro f h; cases h), Sl.nil, [], rfl, .nil, by simp, rfl⟩
 ·rintro k e A' ⟨hE, e0, e1, i, hi, rfl, e7, o, e6, hof, u, l, e5, hacc, hll, hp⟩
  have hz := hE.size
  simp (disch := first | omega | fail) only [amR Tryz.prog ro X, amS, seval, reduceCtorEq, ty3, ty4, ty5, ty9, ty22, e0, e7]
  refine CondB.split (fun h => ?_) (fun h => ?_)
  ·have hil : i ≤ s.size := by simp at h; omega
   have hg : (gapAt s i = true ∧ ((i : Int) = s.size ∨ (¬ (i : Int) = s.size ∧ ((bget s i).toNat : Int) = 32) ∨ (¬ (i : Int) = s.size ∧ ¬ ((bget s i).toNat : Int) = 32 ∧ ((bget s i).toNat : Int) = 10))) ∨ (gapAt s i = false ∧ ¬ (i : Int) = s.size ∧ ¬ ((bget s i).toNat : Int) = 32 ∧ ¬ ((bget s i).toNat : Int) = 10) := by
    unfold gapAt
    by_cases c1 : i = s.size
    ·exact .inl ⟨by simp [c1], .inl (by omega)⟩
    ·by_cases c2 : ((bget s i).toNat : Int) = 32
     ·exact .inl ⟨by simp [c2], .inr (.inl ⟨by omega, c2⟩)⟩
     ·by_cases c3 : ((bget s i).toNat : Int) = 10
      ·exact .inl ⟨by simp [c3], .inr (.inr ⟨by omega, c2, c3⟩)⟩
      ·exact .inr ⟨by simp [c1, c2, c3], by omega, c2, c3⟩
   cases o with
   | none =>
     have hpe := piecesR_none hil
     have f1 : (fromI none : Int) = -1 := rfl
     rcases hg with ⟨hg, hg'⟩ | ⟨hg, g1, g2, g3⟩
     ·rw [hg, if_pos rfl] at hpe
      rw [hpe] at hp
      rcases hg' with g1 | ⟨g1, g2⟩ | ⟨g1, g2, g3⟩
      ·obtain rfl : i = s.size := by omega
       simp (disch := first | omega | fail) only [amR Tryz.prog ro X, amS, seval, reduceCtorEq, ty3, ty4, ty5, ty9, ty22, e0, e1, e5, e6, e7, f1]
       exact ⟨s.size + 1 - (s.size + 1), by omega, hE, s.size + 1, by omega, rfl, by simp, none, rfl, (by intro f h; cases h), u, l, rfl, hacc, by omega, hp⟩
      ·simp (disch := first | omega | fail) only [amR Tryz.prog ro X, amS, seval, reduceCtorEq, ty3, ty4, ty5, ty9, ty22, e0, e1, e5, e6, e7, f1, g1, g2]
       exact ⟨s.size + 1 - (i + 1), by omega, hE, i + 1, by omega, rfl, by simp, none, rfl, (by intro f h; cases h), u, l, rfl, hacc, by omega, hp⟩
      ·simp (disch := first | omega | fail) only [amR Tryz.prog ro X, amS, seval, reduceCtorEq, ty3, ty4, ty5, ty9, ty22, e0, e1, e5, e6, e7, f1, g1, g2, g3]
       exact ⟨s.size + 1 - (i + 1), by omega, hE, i + 1, by omega, rfl, by simp, none, rfl, (by intro f h; cases h), u, l, rfl, hacc, by omega, hp⟩
     ·rw [hg, if_neg (by simp)] at hpe
      rw [hpe] at hp
      simp (disch := first | omega | fail) only [amR Tryz.prog ro X, amS, seval, reduceCtorEq, ty3, ty4, ty5, ty9, ty22, e0, e1, e5, e6, e7, f1, g1, g2, g3]
      exact ⟨s.size + 1 - (i + 1), by omega, hE, i + 1, by omega, rfl, by simp, some i, rfl, (by intro f h; cases h; omega), u, l, rfl, hacc, by omega, hp⟩
   | some f =>
     have hpe := piecesR_some (f := f) hil
     have hfi := hof f rfl
     have f1 : (fromI (some f) : Int) = f := rfl
     have f2 : ¬ (f : Int) < 0 := by omega
     have f3 : (0 : Int) ≤ f := by omega
     rcases hg with ⟨hg, hg'⟩ | ⟨hg, g1, g2, g3⟩
     ·rw [hg, if_pos rfl] at hpe
      rw [hpe] at hp
      obtain ⟨u', A8, hap, hs', hgr, hz8, _⟩ := hacc.lit (P := Tryz.prog) (ro := ro) (t := 22) (n := 1) (vs := [.string (s.extract f i)]) (xs := [s.extract f i]) hro (by simp only [ty22]; rfl) rfl (Reps.one (show [Value.string (s.extract f i)] = [Value.string (s.extract f i)] ∧ ([] : List Nat) = [] ∧ (s.extract f i).size < BIG from ⟨rfl, rfl, by rw [ByteArray.size_extract]; unfold BIG; omega⟩)) (.inr (by simp)) (by omega) (by omega)
      rw [show Dat.w ByteArray = 1 from rfl] at hap
      have hE8 := hgr.ext hE (Nat.le_refl _)
      rcases hg' with g1 | ⟨g1, g2⟩ | ⟨g1, g2, g3⟩
      ·obtain rfl : i = s.size := by omega
       simp (disch := first | omega | fail) only [amR Tryz.prog ro X, amS, seval, reduceCtorEq, ty3, ty4, ty5, ty9, ty22, e0, e1, e5, e6, e7, f1, f2, f3, hap]
       exact ⟨s.size + 1 - (s.size + 1), by omega, hE8, s.size + 1, by omega, rfl, by simp, none, rfl, (by intro f h; cases h), u', l ++ [s.extract f s.size], rfl, hs', by simp; omega, by rw [List.append_assoc]; exact hp⟩
      ·simp (disch := first | omega | fail) only [amR Tryz.prog ro X, amS, seval, reduceCtorEq, ty3, ty4, ty5, ty9, ty22, e0, e1, e5, e6, e7, f1, f2, f3, g1, g2, hap]
       exact ⟨s.size + 1 - (i + 1), by omega, hE8, i + 1, by omega, rfl, by simp, none, rfl, (by intro f h; cases h), u', l ++ [s.extract f i], rfl, hs', by simp; omega, by rw [List.append_assoc]; exact hp⟩
      ·simp (disch := first | omega | fail) only [amR Tryz.prog ro X, amS, seval, reduceCtorEq, ty3, ty4, ty5, ty9, ty22, e0, e1, e5, e6, e7, f1, f2, f3, g1, g2, g3, hap]
       exact ⟨s.size + 1 - (i + 1), by omega, hE8, i + 1, by omega, rfl, by simp, none, rfl, (by intro f h; cases h), u', l ++ [s.extract f i], rfl, hs', by simp; omega, by rw [List.append_assoc]; exact hp⟩
     ·rw [hg, if_neg (by simp)] at hpe
      rw [hpe] at hp
      simp (disch := first | omega | fail) only [amR Tryz.prog ro X, amS, seval, reduceCtorEq, ty3, ty4, ty5, ty9, ty22, e0, e1, e5, e6, e7, f1, f2, f3, g1, g2, g3]
      exact ⟨s.size + 1 - (i + 1), by omega, hE, i + 1, by omega, rfl, by simp, some f, rfl, (by intro f' h; cases h; omega), u, l, rfl, hacc, by omega, hp⟩
  ·have hil : i = s.size + 1 := by simp at h; omega
   subst hil
   rw [piecesR_end (by omega), List.append_nil] at hp
   have hul := hacc.len
   obtain ⟨F, hF, _⟩ := hacc.slr
   by_cases hnl : (n : Int) < l.length
   ·have hnl' : n < l.length := by omega
    obtain ⟨n1, b1, m1, i1, c1, q1⟩ := hF.str hnl'
    rw [aCell_eq] at c1
    simp (disch := first | omega | fail) only [amR Tryz.prog ro X, amS, seval, reduceCtorEq, ty3, ty4, ty5, ty9, ty22, e1, e5, hul, hnl, n1, c1]
    exact ⟨by rw [wordR, ← hp, List.getD_eq_getElem?_getD, List.getElem?_eq_getElem hnl']; rfl, hE⟩
   ·simp (disch := first | omega | fail) only [amR Tryz.prog ro X, amS, seval, reduceCtorEq, ty3, ty4, ty5, ty9, ty22, e1, e5, hul, hnl]
    exact ⟨by rw [wordR, ← hp, List.getD_eq_getElem?_getD, List.getElem?_eq_none (by omega)]; rfl, hE⟩
def mc (cs s : Sl) (pc st lk : Nat) (ask : Bool) (nm : ByteArray) : List Value := [cs.v, s.v, .int .i64 pc, .int .i64 st, .int .i64 lk, .bool ask, .string nm]
def tc (t : TTurn) : Value := .agg #[.bool t.1, .int .i64 t.2.1, .string t.2.2.1, .bool t.2.2.2.1, .string t.2.2.2.2.1, .int .i64 t.2.2.2.2.2]
theorem end_a (A : AH) (hro : ro ≤ A.size) (p : Nat) (hp : p < A.size) (cs s : Sl) (pc st lk : Nat) (ask : Bool) (nm : ByteArray) (g : A.get p = .cells (mc cs s pc st lk ask nm) 7) (c : Int) (t : ByteArray) :
 ACalls Tryz.prog ro X 131 [.pointer (some ⟨p, 0, none⟩), .int .i64 c, .string t] A (fun r A' => r = .ret (tc (turnOf (.fin c t st))) ∧ Ext A A') := by
 refine ACalls.enterQ (rs := [.cell 6 122]) Tryz.func131 rfl (by kernel_rfl) rfl ?_
 unfold mc at g
 simp (disch := first | omega | fail) only [amR Tryz.prog ro X, amS, seval, reduceCtorEq, ty3, ty4, ty9, ty22, ty56, ty122, ty133, g]
 exact ⟨rfl, (by ((repeat' (first | exact Ext.refl _ | assumption | refine Ext.trans ?_ (Ext.new _ _) | refine Ext.put ?_ ?_ _ | refine Ext.trans ?_ (by assumption))) <;> (first | omega | (simp only [AH.zN, AH.zP] <;> omega))))⟩
theorem stuck_a (A : AH) (hro : ro ≤ A.size) (hP : Pow 6 A) (p : Nat) (hp : p < A.size) (cs s : Sl) (pc st lk : Nat) (hpc : pc ≤ 200) (ask : Bool) (nm : ByteArray) (g : A.get p = .cells (mc cs s pc st lk ask nm) 7) :
 ACalls Tryz.prog ro X 130 [.pointer (some ⟨p, 0, none⟩)] A (fun r A' => r = .ret (tc (turnOf (.fin 2 (decS pc) st))) ∧ Ext A A') := by
 refine ACalls.enterQ (rs := [.cell 2 122]) Tryz.func130 rfl (by kernel_rfl) rfl ?_
 have g' := g
 unfold mc at g
 simp (disch := first | omega | fail) only [amR Tryz.prog ro X, amS, seval, reduceCtorEq, ty3, ty4, ty9, ty22, ty56, ty122, ty133, g]
 refine (Itoa.Itoa_a _ (by first | omega | (simp only [AH.zN, AH.zP] <;> omega)) (hP.ext (by ((repeat' (first | exact Ext.refl _ | assumption | refine Ext.trans ?_ (Ext.new _ _) | refine Ext.put ?_ ?_ _ | refine Ext.trans ?_ (by assumption))) <;> (first | omega | (simp only [AH.zN, AH.zP] <;> omega))))) pc (by omega)).mono ?_
 rintro r A1 ⟨rfl, hE1⟩
 have v1 := hE1.size
 simp only [AH.zN] at v1
 simp (disch := first | omega | fail) only [amR Tryz.prog ro X, amS, seval, reduceCtorEq, ty3, ty4, ty9, ty22, ty56, ty122, ty133]
 refine (end_a _ (by first | omega | (simp only [AH.zN, AH.zP] <;> omega)) p (by first | omega | (simp only [AH.zN, AH.zP] <;> omega)) cs s pc st lk ask nm ((hE1.get p (by first | omega | (simp only [AH.zN, AH.zP] <;> omega))).trans ((AH.gNo (by omega)).trans g')) 2 (decS pc)).mono ?_
 rintro r A2 ⟨rfl, hE2⟩
 have v2 := hE2.size
 have gr := (hE2.get A.size (by first | omega | (simp only [AH.zN, AH.zP] <;> omega))).trans (hE1.get A.size (by first | omega | (simp only [AH.zN, AH.zP] <;> omega)))
 simp (disch := first | omega | fail) only [amR Tryz.prog ro X, amS, seval, reduceCtorEq, ty3, ty4, ty9, ty22, ty56, ty122, ty133, tc, gr]
 exact (by ((repeat' (first | exact Ext.refl _ | assumption | refine Ext.trans ?_ (Ext.new _ _) | refine Ext.put ?_ ?_ _ | refine Ext.trans ?_ (by assumption))) <;> (first | omega | (simp only [AH.zN, AH.zP] <;> omega))))
theorem slr_new {A : AH} {b : Nat} {l : List ByteArray} (hb : b < A.size) (hg : A.get b = .cells (l.map Value.string) 1) (hl : ∀ t ∈ l, t.size < BIG) (hn : l.length < BIG) : ∃ F, SlR A ⟨false, b, 0, l.length, l.length⟩ l F :=
 ⟨_, .inB ⟨rfl, hb, rfl, .inr ⟨Nat.le_refl _, hn⟩, l.map Value.string, l.map Value.string, [], hg, by show 0 + l.length * 1 ≤ _; rw [List.length_map]; omega, by show (List.drop 0 _).take (l.length * 1) = _; rw [List.drop_zero, List.take_of_length_le (by rw [List.length_map]; omega)], reps_map hl, rfl⟩⟩
theorem top1 {A : AH} {a : Sl} {l : List ByteArray} {F : List Nat} (h : SlR A a (l.drop (l.length - 1)) F) (h1 : 1 ≤ l.length) : a.nl = false ∧ a.b < A.size ∧ a.len = 1 ∧ cellK a.o (A.get a.b) = some (.string (topA l)) := by
 have hl := h.len
 obtain ⟨n1, b1, _, _, c1, _⟩ := h.str (i := 0) (by rw [List.length_drop]; omega)
 rw [aCell_eq] at c1
 refine ⟨n1, b1, by rw [hl, List.length_drop]; omega, ?_⟩
 rw [topA, List.getD_eq_getElem?_getD, List.getElem?_eq_getElem (by omega)]
 simpa using c1
theorem top2 {A : AH} {a : Sl} {l : List ByteArray} {F : List Nat} (h : SlR A a (l.drop (l.length - 2)) F) (h1 : 2 ≤ l.length) : a.nl = false ∧ a.b < A.size ∧ a.len = 2 ∧ cellK a.o (A.get a.b) = some (.string (topB l)) ∧ cellK (a.o + 1) (A.get a.b) = some (.string (topA l)) := by
 have hl := h.len
 obtain ⟨n1, b1, _, _, c1, _⟩ := h.str (i := 0) (by rw [List.length_drop]; omega)
 obtain ⟨_, _, _, _, c2, _⟩ := h.str (i := 1) (by rw [List.length_drop]; omega)
 rw [aCell_eq] at c1 c2
 refine ⟨n1, b1, by rw [hl, List.length_drop]; omega, ?_, ?_⟩
 ·rw [topB, List.getD_eq_getElem?_getD, List.getElem?_eq_getElem (by omega)]
  simpa using c1
 ·rw [topA, List.getD_eq_getElem?_getD, List.getElem?_eq_getElem (by omega)]
  rw [c2, List.getElem_drop]
  simp only [Option.getD_some]
  congr 3
  omega
theorem big1 : 1 < BIG := by decide
theorem big2 : 2 < BIG := by decide
theorem piecesN_size (s : ByteArray) : ∀ (k i : Nat) (o : Option Nat) (x : ByteArray), x ∈ piecesN s k i o → x.size ≤ s.size
 | 0, _, _, x, h => by cases h
 | k + 1, i, none, x, h => by
   unfold piecesN at h
   split at h
   ·exact piecesN_size s k _ _ x h
   ·exact piecesN_size s k _ _ x h
 | k + 1, i, some f, x, h => by
   unfold piecesN at h
   split at h
   ·rcases List.mem_cons.1 h with rfl | h
    ·rw [ByteArray.size_extract]; omega
    ·exact piecesN_size s k _ _ x h
   ·exact piecesN_size s k _ _ x h
theorem wordR_size (s : ByteArray) (n : Nat) : (wordR s n).size ≤ s.size := by
 unfold wordR piecesR
 rw [List.getD_eq_getElem?_getD]
 cases h : (piecesN s (s.size + 1 - 0) 0 none)[n]? with
 | none => exact Nat.zero_le _
 | some x => exact piecesN_size s _ _ _ x (List.mem_of_getElem? h)
structure MidOk (H2 H' : AH) (m : Mach) (tk : Nat) (x : TIns) (ow : Sl) (out : List ByteArray) (nx : Nat) : Prop where
 ext : Ext H2 H'
 row : ∃ F, SlR H' ow out F
 few : m.st.length - tk + out.length ≤ 50
 two : out.length ≤ 2
 ins : insR x m = if ∀ s ∈ out, s.size ≤ 2000 then .go ⟨nx, m.st.take (m.st.length - tk) ++ out, m.steps + 1, m.looks⟩ else .fin 2 (decS m.pc) (m.steps + 1)
theorem MidOk.plain {H2 H' : AH} {m : Mach} {tk pt : Nat} {x : TIns} {ow : Sl} (h : 1 ≤ x.1 ∧ x.1 ≤ 9) (htk : opTake x.1 = tk) (hpt : opPut x.1 = pt) (hk : m.st.length - tk + pt ≤ 50) (hp2 : pt ≤ 2) (hE : Ext H2 H') (hr : ∃ F, SlR H' ow (plainR x (topA m.st) (topB m.st)) F) : MidOk H2 H' m tk x ow (plainR x (topA m.st) (topB m.st)) (m.pc + 1) := by
 have hl := plainR_len x h (topA m.st) (topB m.st)
 rw [hpt] at hl
 have hl' : (plainR x (topA m.st) (topB m.st)).length = pt := hl
 refine ⟨hE, hr, by omega, by omega, ?_⟩
 have hr' : restR x m.st = m.st.take (m.st.length - tk) := by unfold restR; rw [htk]; rfl
 unfold insR
 rw [if_neg (by omega), if_neg (by omega), if_neg (by omega), if_neg (by omega), if_neg (by omega), hr']
theorem MidOk.jump {H2 : AH} {m : Mach} {tk : Nat} {x : TIns} {nx : Nat} (htk : opTake x.1 = tk) (hk : m.st.length - tk ≤ 50) (h : insR x m = .go ⟨nx, restR x m.st, m.steps + 1, m.looks⟩) : MidOk H2 H2 m tk x .nil [] nx := by
 have hr' : restR x m.st = m.st.take (m.st.length - tk) := by unfold restR; rw [htk]; rfl
 exact ⟨Ext.refl _, ⟨[], .nil rfl rfl rfl⟩, hk, by decide, by rw [h, if_pos (by intro s hs; cases hs), hr', List.append_nil]⟩
set_option maxHeartbeats 4000000 in
theorem run_a (A : AH) (hro : ro ≤ A.size) (hT : Tab 0 A) (hP : Pow 6 A) (p : Nat) (hp : p < A.size) (hrp : ro ≤ p) (lo : Nat) (hlo : lo ≤ A.size) (hrl : ro ≤ lo) (cs : Sl) (prog : List TIns) (F : List Nat) (hc : SlR A cs prog F) (hpF : p ∉ F) (hok : ProgOk prog) (mm : Mach) (hmm : MachOk mm) (s0 : Sl) (hs0 : Stk lo A s0 mm.st) (hsp0 : s0.nl = true ∨ s0.b ≠ p) (ask0 : Bool) (nm0 : ByteArray) (g0 : A.get p = .cells (mc cs s0 mm.pc mm.steps mm.looks ask0 nm0) 7) :
 ACalls Tryz.prog ro X 74 [.pointer (some ⟨p, 0, none⟩)] A (fun r A' => r = .ret (tc (turnOf (runR prog mm))) ∧ ExtX [p] A A' ∧ ∀ a n m', runR prog mm = .look a n m' → ∃ s', A'.get p = .cells (mc cs s' m'.pc m'.steps m'.looks a n) 7 ∧ Stk lo A' s' m'.st ∧ (s'.nl = true ∨ s'.b ≠ p) ∧ (s'.nl = s0.nl ∧ s'.b = s0.b ∨ A.size ≤ s'.b)) := by
 refine ACalls.enterQ (rs := [.cell 2 122]) Tryz.func74 rfl (by kernel_rfl) rfl ?_
 simp (disch := first | omega | fail) only [amR Tryz.prog ro X, amS, seval, reduceCtorEq, ty3, ty4, ty5, ty9, ty22, ty56, ty106, ty122, ty133, ty182, ty183]
 generalize hA0 : A.new _ = A0
 have hE0 : Ext A A0 := by rw [← hA0]; exact Ext.new _ _
 have z0 : A0.size = A.size + 1 := by rw [← hA0]; rfl
 have gr0 : A0.get A.size = .cells [.bool false, .int .i64 0, .string ByteArray.empty, .bool false, .string ByteArray.empty, .int .i64 0] 6 := by rw [← hA0]; exact AH.gNs _ _
 refine Wp.loopC (fun n e H => ExtX [p] A0 H ∧ e 0 = .pointer (some ⟨p, 0, none⟩) ∧ e 2 = .pointer (some ⟨A.size, 0, none⟩) ∧ ∃ m s ask nm, MachOk m ∧ n = 2001 - m.steps ∧ runR prog m = runR prog mm ∧ H.get p = .cells (mc cs s m.pc m.steps m.looks ask nm) 7 ∧ Stk lo H s m.st ∧ (s.nl = true ∨ s.b ≠ p) ∧ (s.nl = s0.nl ∧ s.b = s0.b ∨ A.size ≤ s.b)) (2001 - mm.steps) ?_ ?_
 ·simp (disch := first | omega | fail) only [amV, amH, amQ, amL, amN Tryz.prog, amS, seval, reduceCtorEq, ty3, ty4, ty5, ty9, ty22, ty56, ty106, ty122, ty133, ty182, ty183]
  exact ⟨ExtX.refl _ _, mm, s0, ask0, nm0, hmm, rfl, rfl, (hE0.get p hp).trans g0, hs0.ext hE0, hsp0, .inl ⟨rfl, rfl⟩⟩
 ·rintro n e H ⟨hX, e0, e2, m, s, ask, nm, hm, rfl, hrun, gp, hs, hsp, hs00⟩
  have zH := hX.size
  have grH := (hX.get A.size (by omega) (by simp; omega)).trans gr0
  have hcH : SlR H cs prog F := (hc.ext hE0).extx hX (fun b hb => by simp; rintro rfl; exact hpF hb)
  have hTH : Tab 0 H := (hT.ext hE0).extx hX ((hE0.get p hp).trans g0)
  have hPH : Pow 6 H := (hP.ext hE0).extx hX ((hE0.get p hp).trans g0) (by show 7 < 20; decide)
  have hclen := hc.len
  have hslen := hs.len
  have gp' := gp
  unfold mc at gp'
  have hst := hm.steps
  have hpcb := hm.pc
  have htick := runR_eq (p := prog) (m := m) hst
  have hf1 : ∀ {c : Int} {t : ByteArray} {st : Nat}, runR prog m = .fin c t st → ARes.ret (tc (turnOf (.fin c t st))) = ARes.ret (tc (turnOf (runR prog mm))) := fun h => by rw [← hrun, h]
  have hf2 : ∀ {H2 : AH} (o : AObj), ExtX [p] H H2 → ExtX [p] A (H2.put A.size o) := fun o hX2 => ⟨by simp only [AH.zP]; have := hX2.size; omega, fun b hb hm => by
   rw [AH.gPo (by omega)]
   exact (hX2.get b (by omega) hm).trans ((hX.get b (by omega) hm).trans (hE0.get b hb))⟩
  have hf3 : ∀ {c : Int} {t : ByteArray} {st : Nat}, runR prog m = .fin c t st → ∀ {a : Bool} {n : ByteArray} {m' : Mach}, runR prog mm = .look a n m' → False := fun h a n m' h2 => by rw [hrun, h2] at h; cases h
  simp (disch := first | omega | fail) only [amR Tryz.prog ro X, amS, seval, reduceCtorEq, ty3, ty4, ty5, ty9, ty22, ty56, ty106, ty122, ty133, ty182, ty183, e0, e2]
  refine WpH (H.size) [] (by kernel_rfl) (.inl (by kernel_rfl)) ?_
  by_cases k1 : (prog.length : Int) ≤ m.pc
  ·have ht : tickR prog m = .fin 2 (decS m.pc) m.steps := by unfold tickR; rw [List.getElem?_eq_none (by omega)]
   rw [ht] at htick
   simp only at htick
   simp (disch := first | omega | fail) only [amX2 Tryz.prog ro X, amX Tryz.prog ro X, amR Tryz.prog ro X, amS, seval, reduceCtorEq, ty3, ty4, ty5, ty9, ty22, ty56, ty106, ty122, ty133, ty182, ty183, e0, e2, gp', hclen, k1]
   refine (stuck_a _ (by first | omega | (simp only [AH.zN, AH.zP] <;> omega)) hPH p (by omega) cs s m.pc m.steps m.looks hm.pc ask nm gp).mono ?_
   rintro r H1 ⟨rfl, hE1⟩
   have z1 := hE1.size
   have gr1 := (hE1.get A.size (by omega)).trans grH
   simp (disch := first | omega | fail) only [amX2 Tryz.prog ro X, amX Tryz.prog ro X, amR Tryz.prog ro X, amS, seval, reduceCtorEq, ty3, ty4, ty5, ty9, ty22, ty56, ty106, ty122, ty133, ty182, ty183, e0, e2, tc, gr1]
   exact ⟨hf1 htick, hf2 _ (hE1.x [p]), fun a n m' h2 => (hf3 htick h2).elim⟩
  ·have hpl : m.pc < prog.length := by omega
   obtain ⟨n1, b1, i1, r1, q1⟩ := hcH.ins hpl
   simp (disch := first | omega | fail) only [amX2 Tryz.prog ro X, amX Tryz.prog ro X, amR Tryz.prog ro X, amS, seval, reduceCtorEq, ty3, ty4, ty5, ty9, ty22, ty56, ty106, ty122, ty133, ty182, ty183, e0, e2, gp', hclen, k1]
   by_cases k2 : (m.steps : Int) = 2000
   ·have ht : tickR prog m = .fin 3 ⟨#[]⟩ m.steps := by unfold tickR; rw [List.getElem?_eq_getElem hpl]; simp only; rw [if_pos (by omega)]
    rw [ht] at htick
    simp only at htick
    simp (disch := first | omega | fail) only [amX2 Tryz.prog ro X, amX Tryz.prog ro X, amR Tryz.prog ro X, amS, seval, reduceCtorEq, ty3, ty4, ty5, ty9, ty22, ty56, ty106, ty122, ty133, ty182, ty183, e0, e2, gp', k2]
    refine (end_a _ (by first | omega | (simp only [AH.zN, AH.zP] <;> omega)) p (by omega) cs s m.pc m.steps m.looks ask nm gp 3 ⟨#[]⟩).mono ?_
    rintro r H1 ⟨rfl, hE1⟩
    have z1 := hE1.size
    have gr1 := (hE1.get A.size (by omega)).trans grH
    simp (disch := first | omega | fail) only [amX2 Tryz.prog ro X, amX Tryz.prog ro X, amR Tryz.prog ro X, amS, seval, reduceCtorEq, ty3, ty4, ty5, ty9, ty22, ty56, ty106, ty122, ty133, ty182, ty183, e0, e2, tc, gr1]
    exact ⟨hf1 htick, hf2 _ (hE1.x [p]), fun a n m' h2 => (hf3 htick h2).elim⟩
   ·have hI := hok.2.2 _ (List.getElem_mem hpl)
    have hlen200 := hok.2.1
    have hti : tickR prog m = if tooFew prog[m.pc] m.st then .fin 2 (decS m.pc) (m.steps + 1) else insR prog[m.pc] m := by unfold tickR; rw [List.getElem?_eq_getElem hpl]; simp only; rw [if_neg (by omega)]
    simp (disch := first | omega | fail) only [amX2 Tryz.prog ro X, amX Tryz.prog ro X, amR Tryz.prog ro X, amS, seval, reduceCtorEq, ty3, ty4, ty5, ty9, ty22, ty56, ty106, ty122, ty133, ty182, ty183, e0, e2, gp', k2]
    generalize hH1 : H.put p _ = H1
    have z1 : H1.size = H.size := by rw [← hH1]; exact AH.zP _ _ _
    have hX1 : ExtX [p] H H1 := by rw [← hH1]; exact (ExtX.refl _ _).put (by simp) _
    have gp1 : H1.get p = .cells [cs.v, s.v, .int .i64 m.pc, .int .i64 (m.steps + 1 : Nat), .int .i64 m.looks, .bool ask, .string nm] 7 := by rw [← hH1]; exact AH.gPs _ _ _
    have hc1 : SlR H1 cs prog F := hcH.extx hX1 (fun b hb => by simp; rintro rfl; exact hpF hb)
    have hT1 : Tab 0 H1 := hTH.extx hX1 gp
    have hP1 : Pow 6 H1 := hPH.extx hX1 gp (by show 7 < 20; decide)
    have hs1 : Stk lo H1 s m.st := hs.frame (by omega) (fun h => hX1.get _ (by
     rcases hs with ⟨rfl, _⟩ | ⟨_, _, h, _⟩
     ·cases h
     ·exact h) (by rcases hsp with h' | h'; rw [h] at h'; cases h'; simpa using h'))
    have gr1 := (hX1.get A.size (by omega) (by simp; omega)).trans grH
    clear r1 n1 b1 i1
    obtain ⟨n1, b1, i1, r1, q1⟩ := hc1.ins hpl
    generalize prog[m.pc] = x at *
    obtain ⟨xo, xt, xn⟩ := x
    obtain ⟨ho1, ho2, hxt, hxn0, hxn1, hxk⟩ := hI
    simp only at ho1 ho2 hxt hxn0 hxn1 hxk r1 q1
    obtain ⟨ts, tcs, tg, tgl, tn, tl, tb, tgb, _, tall⟩ := hT1.at
    have hcp := (tall xo (by omega) (by omega)).2.2.2.2
    rw [← tgb] at hcp
    clear tall hH1
    refine WpH (H1.size) [] (by kernel_rfl) (.inl (by kernel_rfl)) ?_
    have hb : ∃ tk pt : Nat, opTake xo = tk ∧ opPut xo = pt ∧ tk ≤ 2 ∧ pt ≤ 2 := by
     rcases op_cases ho1 ho2 with rfl | rfl | rfl | rfl | rfl | rfl | rfl | rfl | rfl | rfl | rfl | rfl | rfl | rfl | rfl <;> exact ⟨_, _, rfl, rfl, by decide, by decide⟩
    obtain ⟨tk, pt, htk, hpt, htk2, hpt2⟩ := hb
    have ho3 : xo < 16 := by omega
    have hsl := hm.st
    rw [htk, hpt] at hcp
    have hfew : tooFew (xo, xt, xn) m.st ↔ m.st.length < tk ∨ 50 < m.st.length - tk + pt := by unfold tooFew; simp only; rw [htk, hpt]; exact Iff.rfl
    have ho0 : 0 ≤ xo := by omega
    simp (maxSteps := 2000000) (disch := first | omega | (simp only [AH.zN, AH.zP] <;> omega) | fail) only [amX2 Tryz.prog ro X, amX Tryz.prog ro X, amR Tryz.prog ro X, amS, seval, reduceCtorEq, ty3, ty4, ty5, ty9, ty22, ty56, ty106, ty122, ty133, ty182, ty183, e0, e2, gp1, n1, b1, i1, r1, tg, tn, tl, tb, hcp]
    generalize hH2 : AH.put (AH.new _ _) _ _ = H2
    have hE2 : Ext H1 H2 := by rw [← hH2]; exact (by ((repeat' (first | exact Ext.refl _ | assumption | refine Ext.trans ?_ (Ext.new _ _) | refine Ext.put ?_ ?_ _ | refine Ext.trans ?_ (by assumption))) <;> (first | omega | (simp only [AH.zN, AH.zP] <;> omega))))
    have z2 : H2.size = H1.size + 2 := by rw [← hH2]; rfl
    have gx2 : H2.get H1.size = .cells [.int .i64 xo, .string xt, .int .i64 xn] 3 := by rw [← hH2, AH.gPo (by omega), AH.gNo (by simp only [AH.zP, AH.zN]; omega)]; exact AH.gPs _ _ _
    have go2 : H2.get (H1.size + 1) = .cells [.string (opWord xo), .int .u8 (opKd xo).toNat, .int .i64 tk, .int .i64 pt] 4 := by rw [← hH2]; exact AH.gPs _ _ _
    have gp2 := (hE2.get p (by omega)).trans gp1
    have gr2 := (hE2.get A.size (by omega)).trans gr1
    have hs2 := hs1.ext hE2
    have hX2 : ExtX [p] H H2 := hX1.trans (hE2.x _)
    clear hH2 r1 n1 b1 i1 tg tgl tn tl tb tgb hcp hT1 hc1 hs1 hcH hTH hPH
    have hP2 := hP1.ext hE2
    refine WpH (H2.size) [] (by kernel_rfl) (.inl (by kernel_rfl)) ?_
    by_cases k3 : (m.st.length : Int) - tk < 0
    ·have ht : tickR prog m = .fin 2 (decS m.pc) (m.steps + 1) := by rw [hti, if_pos (hfew.2 (.inl (by omega)))]
     rw [ht] at htick
     simp only at htick
     simp (disch := first | omega | fail) only [amX2 Tryz.prog ro X, amX Tryz.prog ro X, amR Tryz.prog ro X, amS, seval, reduceCtorEq, ty3, ty4, ty5, ty9, ty22, ty56, ty106, ty122, ty133, ty182, ty183, e0, e2, gp2, go2, hslen, k3]
     refine (stuck_a _ (by first | omega | (simp only [AH.zN, AH.zP] <;> omega)) hP2 p (by omega) cs s m.pc (m.steps + 1) m.looks hm.pc ask nm gp2).mono ?_
     rintro r H3 ⟨rfl, hE3⟩
     have z3 := hE3.size
     have gr3 := (hE3.get A.size (by omega)).trans gr2
     simp (disch := first | omega | fail) only [amX2 Tryz.prog ro X, amX Tryz.prog ro X, amR Tryz.prog ro X, amS, seval, reduceCtorEq, ty3, ty4, ty5, ty9, ty22, ty56, ty106, ty122, ty133, ty182, ty183, e0, e2, tc, gr3]
     exact ⟨hf1 htick, hf2 _ (hX2.trans (hE3.x [p])), fun a n m' h2 => (hf3 htick h2).elim⟩
    by_cases k4 : (50 : Int) < m.st.length - tk + pt
    ·have ht : tickR prog m = .fin 2 (decS m.pc) (m.steps + 1) := by rw [hti, if_pos (hfew.2 (.inr (by omega)))]
     rw [ht] at htick
     simp only at htick
     simp (disch := first | omega | fail) only [amX2 Tryz.prog ro X, amX Tryz.prog ro X, amR Tryz.prog ro X, amS, seval, reduceCtorEq, ty3, ty4, ty5, ty9, ty22, ty56, ty106, ty122, ty133, ty182, ty183, e0, e2, gp2, go2, hslen, k3, k4]
     refine (stuck_a _ (by first | omega | (simp only [AH.zN, AH.zP] <;> omega)) hP2 p (by omega) cs s m.pc (m.steps + 1) m.looks hm.pc ask nm gp2).mono ?_
     rintro r H3 ⟨rfl, hE3⟩
     have z3 := hE3.size
     have gr3 := (hE3.get A.size (by omega)).trans gr2
     simp (disch := first | omega | fail) only [amX2 Tryz.prog ro X, amX Tryz.prog ro X, amR Tryz.prog ro X, amS, seval, reduceCtorEq, ty3, ty4, ty5, ty9, ty22, ty56, ty106, ty122, ty133, ty182, ty183, e0, e2, tc, gr3]
     exact ⟨hf1 htick, hf2 _ (hX2.trans (hE3.x [p])), fun a n m' h2 => (hf3 htick h2).elim⟩
    have htkl : tk ≤ m.st.length := by omega
    have hti' : tickR prog m = insR (xo, xt, xn) m := by rw [hti, if_neg (fun h => by rcases hfew.1 h with h | h <;> omega)]
    obtain ⟨Fs, hF2, hFs⟩ := hs2.slr
    obtain ⟨a, Fa, ha1, ha2, ha3⟩ := hF2.from (P := Tryz.prog) (t := 22) (by simp only [ty22]; rfl) (i := m.st.length - tk) (by omega)
    have ha4 : ∀ k, aSlice Tryz.prog H2 22 s.v (some (.int k ((m.st.length : Int) - tk))) none none = some a.v := fun k => by rw [← ha1 k]; congr 3; omega
    simp (disch := first | omega | fail) only [amX2 Tryz.prog ro X, amX Tryz.prog ro X, amR Tryz.prog ro X, amS, seval, reduceCtorEq, ty3, ty4, ty5, ty9, ty22, ty56, ty106, ty122, ty133, ty182, ty183, e0, e2, gp2, go2, gx2, hslen, k3, k4, ha4]
    refine condCut (fun e H' => e 0 = .pointer (some ⟨p, 0, none⟩) ∧ e 2 = .pointer (some ⟨A.size, 0, none⟩) ∧ e 5 = .int .i64 ((m.st.length : Int) - tk) ∧ ∃ ow out nx, e 7 = ow.v ∧ e 8 = .int .i64 (nx : Nat) ∧ MidOk H2 H' m tk (xo, xt, xn) ow out nx) ?_ ?_
    ·have hmidp : ∀ {H' : AH} {ow : Sl}, xo ≤ 9 → Ext H2 H' → (∃ F, SlR H' ow (plainR (xo, xt, xn) (topA m.st) (topB m.st)) F) → MidOk H2 H' m tk (xo, xt, xn) ow (plainR (xo, xt, xn) (topA m.st) (topB m.st)) (m.pc + 1) := fun h9 hE hr => MidOk.plain ⟨ho1, h9⟩ htk hpt (by omega) hpt2 hE hr
     have htopz : 1 ≤ m.st.length → (topA m.st).size ≤ 2000 := fun h => hm.txt _ (topA_mem h)
     have htopz2 : 2 ≤ m.st.length → (topB m.st).size ≤ 2000 := fun h => hm.txt _ (by
      unfold topB
      rw [List.getD_eq_getElem?_getD, List.getElem?_eq_getElem (by omega)]
      exact List.getElem_mem _)
     obtain ⟨n, rfl⟩ := Int.eq_ofNat_of_zero_le hxn0
     have hnz : n ≤ 2000 := by
      have h2 : mostN xo ≤ 2000 := by unfold mostN; split; omega; split <;> omega
      omega
     clear hti hfew hX1 gr1 grH gp1 gp gp' k1 k2
     rcases op_cases ho1 ho2 with rfl | rfl | rfl | rfl | rfl | rfl | rfl | rfl | rfl | rfl | rfl | rfl | rfl | rfl | rfl
     ·obtain rfl : tk = 0 := by have h : opTake 1 = 0 := rfl; omega
      simp (disch := first | omega | fail) only [amX2 Tryz.prog ro X, amX Tryz.prog ro X, amR Tryz.prog ro X, amS, seval, reduceCtorEq, ty3, ty4, ty5, ty9, ty22, ty56, ty106, ty122, ty133, ty182, ty183, e0, e2, gx2]
      exact ⟨⟨false, H2.size, 0, 1, 1⟩, _, _, rfl, by simp, hmidp (by omega) (by ((repeat' (first | exact Ext.refl _ | assumption | refine Ext.trans ?_ (Ext.new _ _) | refine Ext.put ?_ ?_ _ | refine Ext.trans ?_ (by assumption))) <;> (first | omega | (simp only [AH.zN, AH.zP] <;> omega)))) (slr_new (l := [xt]) (by first | omega | (simp only [AH.zN, AH.zP] <;> omega)) (AH.gNs _ _) (by intro t ht; rw [List.mem_singleton.1 ht]; unfold BIG; omega) big1)⟩
     ·obtain rfl : tk = 2 := by have h : opTake 2 = 2 := rfl; omega
      obtain ⟨n1, b1, l1, c1, c2⟩ := top2 ha2 htkl
      have hz1 := htopz (by omega)
      have hz2 := htopz2 htkl
      simp (disch := first | omega | fail) only [amR Tryz.prog ro X, amS, seval, reduceCtorEq, ty3, ty4, ty5, ty9, ty22, ty56, ty106, ty122, ty133, ty182, ty183, e0, e2]
      refine WpH (H2.size) [] (by kernel_rfl) (.inl (by kernel_rfl)) ?_
      simp (disch := first | omega | fail) only [amX2 Tryz.prog ro X, amX Tryz.prog ro X, amR Tryz.prog ro X, amS, seval, reduceCtorEq, ty3, ty4, ty5, ty9, ty22, ty56, ty106, ty122, ty133, ty182, ty183, e0, e2, n1, b1, l1, c1, c2]
      exact ⟨⟨false, H2.size, 0, 1, 1⟩, _, _, rfl, by simp, hmidp (by omega) (by ((repeat' (first | exact Ext.refl _ | assumption | refine Ext.trans ?_ (Ext.new _ _) | refine Ext.put ?_ ?_ _ | refine Ext.trans ?_ (by assumption))) <;> (first | omega | (simp only [AH.zN, AH.zP] <;> omega)))) (slr_new (l := [topB m.st ++ topA m.st]) (by first | omega | (simp only [AH.zN, AH.zP] <;> omega)) (AH.gNs _ _) (by intro t ht; rw [List.mem_singleton.1 ht, ByteArray.size_append]; unfold BIG; omega) big1)⟩
     ·obtain rfl : tk = 1 := by have h : opTake 3 = 1 := rfl; omega
      obtain ⟨n1, b1, l1, c1⟩ := top1 ha2 htkl
      have hz1 := htopz htkl
      obtain ⟨k, hk, hkz⟩ : ∃ k, k = min n (topA m.st).size ∧ k ≤ (topA m.st).size := ⟨_, rfl, Nat.min_le_right _ _⟩
      have hmin : aMin [.int .i64 (n : Int), .int .i64 ((topA m.st).size : Int)] = some (.int .i64 (k : Int)) := by
       simp only [aMin, if_true]
       congr 2
       split <;> omega
      simp (disch := first | omega | fail) only [amR Tryz.prog ro X, amS, seval, reduceCtorEq, ty3, ty4, ty5, ty9, ty22, ty56, ty106, ty122, ty133, ty182, ty183, e0, e2]
      refine WpH (H2.size) [] (by kernel_rfl) (.inl (by kernel_rfl)) ?_
      simp (disch := first | omega | fail) only [amX2 Tryz.prog ro X, amX Tryz.prog ro X, amR Tryz.prog ro X, amS, seval, reduceCtorEq, ty3, ty4, ty5, ty9, ty22, ty56, ty106, ty122, ty133, ty182, ty183, e0, e2, gx2, n1, b1, l1, c1, hmin, hkz]
      subst hk
      exact ⟨⟨false, H2.size, 0, 1, 1⟩, _, _, rfl, by simp, hmidp (by omega) (by ((repeat' (first | exact Ext.refl _ | assumption | refine Ext.trans ?_ (Ext.new _ _) | refine Ext.put ?_ ?_ _ | refine Ext.trans ?_ (by assumption))) <;> (first | omega | (simp only [AH.zN, AH.zP] <;> omega)))) (slr_new (l := [(topA m.st).extract 0 (min n (topA m.st).size)]) (by first | omega | (simp only [AH.zN, AH.zP] <;> omega)) (AH.gNs _ _) (by intro t ht; rw [List.mem_singleton.1 ht]; rw [ByteArray.size_extract]; unfold BIG; omega) big1)⟩
     ·obtain rfl : tk = 1 := by have h : opTake 4 = 1 := rfl; omega
      obtain ⟨n1, b1, l1, c1⟩ := top1 ha2 htkl
      have hz1 := htopz htkl
      obtain ⟨k, hk, hkz⟩ : ∃ k, k = min n (topA m.st).size ∧ k ≤ (topA m.st).size := ⟨_, rfl, Nat.min_le_right _ _⟩
      have hmin : aMin [.int .i64 (n : Int), .int .i64 ((topA m.st).size : Int)] = some (.int .i64 (k : Int)) := by
       simp only [aMin, if_true]
       congr 2
       split <;> omega
      simp (disch := first | omega | fail) only [amR Tryz.prog ro X, amS, seval, reduceCtorEq, ty3, ty4, ty5, ty9, ty22, ty56, ty106, ty122, ty133, ty182, ty183, e0, e2]
      refine WpH (H2.size) [] (by kernel_rfl) (.inl (by kernel_rfl)) ?_
      simp (disch := first | omega | fail) only [amX2 Tryz.prog ro X, amX Tryz.prog ro X, amR Tryz.prog ro X, amS, seval, reduceCtorEq, ty3, ty4, ty5, ty9, ty22, ty56, ty106, ty122, ty133, ty182, ty183, e0, e2, gx2, n1, b1, l1, c1, hmin, hkz]
      subst hk
      exact ⟨⟨false, H2.size, 0, 1, 1⟩, _, _, rfl, by simp, hmidp (by omega) (by ((repeat' (first | exact Ext.refl _ | assumption | refine Ext.trans ?_ (Ext.new _ _) | refine Ext.put ?_ ?_ _ | refine Ext.trans ?_ (by assumption))) <;> (first | omega | (simp only [AH.zN, AH.zP] <;> omega)))) (slr_new (l := [(topA m.st).extract (min n (topA m.st).size) (topA m.st).size]) (by first | omega | (simp only [AH.zN, AH.zP] <;> omega)) (AH.gNs _ _) (by intro t ht; rw [List.mem_singleton.1 ht]; rw [ByteArray.size_extract]; unfold BIG; omega) big1)⟩
     ·obtain rfl : tk = 1 := by have h : opTake 5 = 1 := rfl; omega
      obtain ⟨n1, b1, l1, c1⟩ := top1 ha2 htkl
      have hz1 := htopz htkl
      simp (disch := first | omega | fail) only [amR Tryz.prog ro X, amS, seval, reduceCtorEq, ty3, ty4, ty5, ty9, ty22, ty56, ty106, ty122, ty133, ty182, ty183, e0, e2]
      refine WpH (H2.size) [5] (by kernel_rfl) (.inl (by kernel_rfl)) ?_
      simp (disch := first | omega | fail) only [amX2 Tryz.prog ro X, amX Tryz.prog ro X, amR Tryz.prog ro X, amS, seval, reduceCtorEq, ty3, ty4, ty5, ty9, ty22, ty56, ty106, ty122, ty133, ty182, ty183, e0, e2, gx2, n1, b1, l1, c1]
      refine (wordOf_a _ (by first | omega | (simp only [AH.zN, AH.zP] <;> omega)) (topA m.st) hz1 n hnz).mono ?_
      rintro r H3 ⟨rfl, hE3⟩
      have z3 := hE3.size
      have hwz := wordR_size (topA m.st) n
      simp (disch := first | omega | fail) only [amX2 Tryz.prog ro X, amX Tryz.prog ro X, amR Tryz.prog ro X, amS, seval, reduceCtorEq, ty3, ty4, ty5, ty9, ty22, ty56, ty106, ty122, ty133, ty182, ty183, e0, e2]
      exact ⟨hE3.get, ⟨false, H3.size, 0, 1, 1⟩, _, _, rfl, by simp, hmidp (by omega) (by ((repeat' (first | exact Ext.refl _ | assumption | refine Ext.trans ?_ (Ext.new _ _) | refine Ext.put ?_ ?_ _ | refine Ext.trans ?_ (by assumption))) <;> (first | omega | (simp only [AH.zN, AH.zP] <;> omega)))) (slr_new (l := [wordR (topA m.st) n]) (by first | omega | (simp only [AH.zN, AH.zP] <;> omega)) (AH.gNs _ _) (by intro t ht; rw [List.mem_singleton.1 ht]; unfold BIG; omega) big1)⟩
     ·obtain rfl : tk = 2 := by have h : opTake 6 = 2 := rfl; omega
      obtain ⟨n1, b1, l1, c1, c2⟩ := top2 ha2 htkl
      have hz1 := htopz (by omega)
      have hz2 := htopz2 htkl
      simp (disch := first | omega | fail) only [amR Tryz.prog ro X, amS, seval, reduceCtorEq, ty3, ty4, ty5, ty9, ty22, ty56, ty106, ty122, ty133, ty182, ty183, e0, e2]
      refine WpH (H2.size) [7] (by kernel_rfl) (.inl (by kernel_rfl)) ?_
      simp (disch := first | omega | fail) only [amX2 Tryz.prog ro X, amX Tryz.prog ro X, amR Tryz.prog ro X, amS, seval, reduceCtorEq, ty3, ty4, ty5, ty9, ty22, ty56, ty106, ty122, ty133, ty182, ty183, e0, e2, gx2, n1, b1, l1, c1, c2]
      refine (digit_a _ _).mono ?_
      rintro r H3 ⟨rfl, rfl⟩
      have hwz := flagS_size (decide (topB m.st = topA m.st))
      simp (disch := first | omega | fail) only [amX2 Tryz.prog ro X, amX Tryz.prog ro X, amR Tryz.prog ro X, amS, seval, reduceCtorEq, ty3, ty4, ty5, ty9, ty22, ty56, ty106, ty122, ty133, ty182, ty183, e0, e2]
      exact ⟨⟨false, H3.size, 0, 1, 1⟩, _, _, rfl, by simp, hmidp (by omega) (by ((repeat' (first | exact Ext.refl _ | assumption | refine Ext.trans ?_ (Ext.new _ _) | refine Ext.put ?_ ?_ _ | refine Ext.trans ?_ (by assumption))) <;> (first | omega | (simp only [AH.zN, AH.zP] <;> omega)))) (slr_new (l := [flagS (decide (topB m.st = topA m.st))]) (by first | omega | (simp only [AH.zN, AH.zP] <;> omega)) (AH.gNs _ _) (by intro t ht; rw [List.mem_singleton.1 ht]; unfold BIG; omega) big1)⟩
     ·obtain rfl : tk = 1 := by have h : opTake 7 = 1 := rfl; omega
      obtain ⟨n1, b1, l1, c1⟩ := top1 ha2 htkl
      have hz1 := htopz htkl
      simp (disch := first | omega | fail) only [amR Tryz.prog ro X, amS, seval, reduceCtorEq, ty3, ty4, ty5, ty9, ty22, ty56, ty106, ty122, ty133, ty182, ty183, e0, e2]
      refine WpH (H2.size) [] (by kernel_rfl) (.inl (by kernel_rfl)) ?_
      simp (disch := first | omega | fail) only [amX2 Tryz.prog ro X, amX Tryz.prog ro X, amR Tryz.prog ro X, amS, seval, reduceCtorEq, ty3, ty4, ty5, ty9, ty22, ty56, ty106, ty122, ty133, ty182, ty183, e0, e2, n1, b1, l1, c1]
      exact ⟨⟨false, H2.size, 0, 2, 2⟩, _, _, rfl, by simp, hmidp (by omega) (by ((repeat' (first | exact Ext.refl _ | assumption | refine Ext.trans ?_ (Ext.new _ _) | refine Ext.put ?_ ?_ _ | refine Ext.trans ?_ (by assumption))) <;> (first | omega | (simp only [AH.zN, AH.zP] <;> omega)))) (slr_new (l := [topA m.st, topA m.st]) (by first | omega | (simp only [AH.zN, AH.zP] <;> omega)) (AH.gNs _ _) (by intro t ht; simp only [List.mem_cons, List.not_mem_nil, or_false] at ht; rcases ht with rfl | rfl <;> (unfold BIG; omega)) big2)⟩
     ·obtain rfl : tk = 2 := by have h : opTake 8 = 2 := rfl; omega
      obtain ⟨n1, b1, l1, c1, c2⟩ := top2 ha2 htkl
      have hz1 := htopz (by omega)
      have hz2 := htopz2 htkl
      simp (disch := first | omega | fail) only [amR Tryz.prog ro X, amS, seval, reduceCtorEq, ty3, ty4, ty5, ty9, ty22, ty56, ty106, ty122, ty133, ty182, ty183, e0, e2]
      refine WpH (H2.size) [] (by kernel_rfl) (.inl (by kernel_rfl)) ?_
      simp (disch := first | omega | fail) only [amX2 Tryz.prog ro X, amX Tryz.prog ro X, amR Tryz.prog ro X, amS, seval, reduceCtorEq, ty3, ty4, ty5, ty9, ty22, ty56, ty106, ty122, ty133, ty182, ty183, e0, e2, n1, b1, l1, c1, c2]
      exact ⟨⟨false, H2.size, 0, 2, 2⟩, _, _, rfl, by simp, hmidp (by omega) (by ((repeat' (first | exact Ext.refl _ | assumption | refine Ext.trans ?_ (Ext.new _ _) | refine Ext.put ?_ ?_ _ | refine Ext.trans ?_ (by assumption))) <;> (first | omega | (simp only [AH.zN, AH.zP] <;> omega)))) (slr_new (l := [topA m.st, topB m.st]) (by first | omega | (simp only [AH.zN, AH.zP] <;> omega)) (AH.gNs _ _) (by intro t ht; simp only [List.mem_cons, List.not_mem_nil, or_false] at ht; rcases ht with rfl | rfl <;> (unfold BIG; omega)) big2)⟩
     ·simp (disch := first | omega | fail) only [amR Tryz.prog ro X, amS, seval, reduceCtorEq, ty3, ty4, ty5, ty9, ty22, ty56, ty106, ty122, ty133, ty182, ty183, e0, e2]
      exact ⟨.nil, _, _, rfl, by simp, hmidp (by omega) (Ext.refl _) ⟨[], .nil rfl rfl rfl⟩⟩
     ·simp (disch := first | omega | fail) only [amR Tryz.prog ro X, amS, seval, reduceCtorEq, ty3, ty4, ty5, ty9, ty22, ty56, ty106, ty122, ty133, ty182, ty183, e0, e2, gx2]
      exact ⟨.nil, _, _, rfl, by simp, MidOk.jump htk (by omega) rfl⟩
     ·obtain rfl : tk = 1 := by have h : opTake 11 = 1 := rfl; omega
      obtain ⟨n1, b1, l1, c1⟩ := top1 ha2 htkl
      have hz1 := htopz htkl
      by_cases j1 : topA m.st = ⟨#[]⟩
      ·simp (disch := first | omega | fail) only [amX2 Tryz.prog ro X, amX Tryz.prog ro X, amR Tryz.prog ro X, amS, seval, reduceCtorEq, ty3, ty4, ty5, ty9, ty22, ty56, ty106, ty122, ty133, ty182, ty183, e0, e2, gx2, n1, b1, l1, c1, j1]
       exact ⟨.nil, _, _, rfl, rfl, MidOk.jump htk (by omega) (by show Tick.go ⟨if _ then _ else _, _, _, _⟩ = _; rw [if_pos (.inl j1)]; rfl)⟩
      ·by_cases j2 : topA m.st = ⟨#[48]⟩
       ·have j3 : ¬ ((⟨#[48]⟩ : ByteArray) = ⟨#[]⟩) := by rw [← j2]; exact j1
        simp (disch := first | omega | fail) only [amX2 Tryz.prog ro X, amX Tryz.prog ro X, amR Tryz.prog ro X, amS, seval, reduceCtorEq, ty3, ty4, ty5, ty9, ty22, ty56, ty106, ty122, ty133, ty182, ty183, e0, e2, gx2, n1, b1, l1, c1, j2, j3]
        exact ⟨.nil, _, _, rfl, rfl, MidOk.jump htk (by omega) (by show Tick.go ⟨if _ then _ else _, _, _, _⟩ = _; rw [if_pos (.inr j2)]; rfl)⟩
       ·simp (disch := first | omega | fail) only [amX2 Tryz.prog ro X, amX Tryz.prog ro X, amR Tryz.prog ro X, amS, seval, reduceCtorEq, ty3, ty4, ty5, ty9, ty22, ty56, ty106, ty122, ty133, ty182, ty183, e0, e2, gx2, n1, b1, l1, c1, j1, j2]
        exact ⟨.nil, _, m.pc + 1, rfl, by simp, MidOk.jump htk (by omega) (by show Tick.go ⟨if _ then _ else _, _, _, _⟩ = _; rw [if_neg (by rintro (h | h); exact j1 h; exact j2 h)])⟩
     ·obtain rfl : tk = 1 := by have h : opTake 12 = 1 := rfl; omega
      obtain ⟨n1, b1, l1, c1⟩ := top1 ha2 htkl
      have hz1 := htopz htkl
      have hin : insR (12, xt, (n : Int)) m = if ¬ NameOk (topA m.st) then .fin 2 (decS m.pc) (m.steps + 1) else if m.looks = 200 then .fin 3 ⟨#[]⟩ (m.steps + 1) else .look true (topA m.st) ⟨m.pc + 1, restR (12, xt, (n : Int)) m.st, m.steps + 1, m.looks + 1⟩ := rfl
      rw [hti', hin] at htick
      simp (disch := first | omega | fail) only [amX2 Tryz.prog ro X, amX Tryz.prog ro X, amR Tryz.prog ro X, amS, seval, reduceCtorEq, ty3, ty4, ty5, ty9, ty22, ty56, ty106, ty122, ty133, ty182, ty183, e0, e2, n1, b1, l1, c1]
      refine (Store.impl.isName_a _ (topA m.st)).mono ?_
      rintro r H3 ⟨rfl, rfl⟩
      by_cases j1 : NameOk (topA m.st)
      ·rw [if_neg (fun h => h j1)] at htick
       by_cases j2 : (m.looks : Int) = 200
       ·rw [if_pos (by omega)] at htick
        simp only at htick
        simp (disch := first | omega | fail) only [amX2 Tryz.prog ro X, amX Tryz.prog ro X, amR Tryz.prog ro X, amS, seval, reduceCtorEq, ty3, ty4, ty5, ty9, ty22, ty56, ty106, ty122, ty133, ty182, ty183, e0, e2, gp2, j1, j2]
        refine (end_a _ (by first | omega | (simp only [AH.zN, AH.zP] <;> omega)) p (by omega) cs s m.pc (m.steps + 1) m.looks ask nm gp2 3 ⟨#[]⟩).mono ?_
        rintro r H4 ⟨rfl, hE4⟩
        have z4 := hE4.size
        have gr4 := (hE4.get A.size (by omega)).trans gr2
        simp (disch := first | omega | fail) only [amX2 Tryz.prog ro X, amX Tryz.prog ro X, amR Tryz.prog ro X, amS, seval, reduceCtorEq, ty3, ty4, ty5, ty9, ty22, ty56, ty106, ty122, ty133, ty182, ty183, e0, e2, tc, gr4]
        exact ⟨hf1 htick, hf2 _ (hX2.trans (hE4.x [p])), fun a n m' h2 => (hf3 htick h2).elim⟩
       ·rw [if_neg (by omega)] at htick
        simp only at htick
        have hlk := hm.looks
        simp (disch := first | omega | fail) only [amX2 Tryz.prog ro X, amX Tryz.prog ro X, amR Tryz.prog ro X, amS, seval, reduceCtorEq, ty3, ty4, ty5, ty9, ty22, ty56, ty106, ty122, ty133, ty182, ty183, e0, e2, gp2, j1, j2]
        generalize hH4 : H3.put p _ = H4
        have z4 : H4.size = H3.size := by rw [← hH4]; rfl
        have hX4 : ExtX [p] H3 H4 := by rw [← hH4]; exact (ExtX.refl _ _).put (by simp) _
        have gp4 : H4.get p = .cells [cs.v, s.v, .int .i64 m.pc, .int .i64 (m.steps + 1 : Nat), .int .i64 (m.looks + 1 : Nat), .bool ask, .string nm] 7 := by rw [← hH4]; exact AH.gPs _ _ _
        have gx4 := (hX4.get H1.size (by omega) (by simp; omega)).trans gx2
        have gr4 := (hX4.get A.size (by omega) (by simp; omega)).trans gr2
        have hsb : s.nl = false → s.b ≠ p ∧ s.b < H3.size ∧ s.b ≠ A.size := fun h => ⟨by rcases hsp with h' | h'; rw [h] at h'; cases h'; exact h', by
         rcases hs2 with ⟨rfl, _⟩ | ⟨_, _, h, _⟩
         ·cases h
         ·exact h, by
         rcases hs2 with ⟨rfl, _⟩ | ⟨_, _, _, _, _, c, hg, _⟩
         ·cases h
         ·intro he; rw [he, gr2] at hg; cases hg⟩
        have hap : a.b ≠ p := by
         obtain ⟨e1, _, _, e2⟩ := hFs _ (ha3 _ (ha2.str (i := 0) (by rw [List.length_drop]; omega)).2.2.1)
         rw [e1]; exact (hsb e2).1
        have c4 : cellK a.o (H4.get a.b) = some (.string (topA m.st)) := by rw [hX4.get a.b b1 (by simpa using hap)]; exact c1
        clear hH4
        refine Wp.runG [] (by kernel_rfl) (.inl (by kernel_rfl)) ?_
        simp (disch := first | omega | fail) only [amR Tryz.prog ro X, amS, seval, reduceCtorEq, ty3, ty4, ty5, ty9, ty22, ty56, ty106, ty122, ty133, ty182, ty183, e0, e2, gp4, gx4, n1, b1, l1, c4]
        generalize hH5 : AH.put (AH.put H4 _ _) _ _ = H5
        have z5 : H5.size = H4.size := by rw [← hH5]; rfl
        have hX5 : ExtX [p] H4 H5 := by rw [← hH5]; exact ((ExtX.refl _ _).put (by simp) _).put (by simp) _
        have gp5 := (congrArg (AH.get · p) hH5).symm.trans (AH.gPs _ _ _)
        have gr5 := (hX5.get A.size (by omega) (by simp; omega)).trans gr4
        have hX35 := hX4.trans hX5
        have hs5 : Stk lo H5 s m.st := hs2.frame (by omega) (fun h => hX35.get _ (hsb h).2.1 (by simpa using (hsb h).1))
        obtain ⟨s6, u1, u2, u3, u4⟩ := hs5.upto (P := Tryz.prog) (t := 22) (by simp only [ty22]) (i := m.st.length - 1) (by omega)
        have hu5 : ((m.st.length : Int) - 1) = ((m.st.length - 1 : Nat) : Int) := by omega
        have u5 : ∀ k, aSlice Tryz.prog H5 22 s.v none (some (.int k ((m.st.length : Int) - 1))) none = some s6.v := fun k => by rw [hu5]; exact u1 k
        clear hH5
        simp (disch := first | omega | fail) only [amR Tryz.prog ro X, amS, seval, reduceCtorEq, ty3, ty4, ty5, ty9, ty22, ty56, ty106, ty122, ty133, ty182, ty183, e0, e2, gp5, gr5, u5]
        refine Wp.runG [] (by kernel_rfl) (.inl (by kernel_rfl)) ?_
        simp (disch := first | omega | fail) only [amR Tryz.prog ro X, amS, seval, reduceCtorEq, ty3, ty4, ty5, ty9, ty22, ty56, ty106, ty122, ty133, ty182, ty183, e0, e2, tc, gr5]
        have hX6 : ∀ c1 c2, ExtX [p] H ((H5.put p c1).put p c2) := fun c1 c2 => (((hX2.trans hX35).put (by simp) _).put (by simp) _)
        refine ⟨by rw [← hrun, htick]; rfl, hf2 _ (hX6 _ _), fun a' n' m' h2 => ?_⟩
        rw [← hrun, htick] at h2
        cases h2
        refine ⟨s6, rfl, u2.frame (by simp only [AH.zP]; omega) (fun h => ?_), ?_, ?_⟩
        ·rw [u4, AH.gPo (by rw [u3] at h; exact (hsb h).2.2), AH.gPo (by rw [u3] at h; exact (hsb h).1), AH.gPo (by rw [u3] at h; exact (hsb h).1)]
        ·rw [u3, u4]; exact hsp
        ·rw [u3, u4]; exact hs00
      ·rw [if_pos j1] at htick
       simp only at htick
       simp (disch := first | omega | fail) only [amX2 Tryz.prog ro X, amX Tryz.prog ro X, amR Tryz.prog ro X, amS, seval, reduceCtorEq, ty3, ty4, ty5, ty9, ty22, ty56, ty106, ty122, ty133, ty182, ty183, e0, e2, gp2, j1]
       refine (stuck_a _ (by first | omega | (simp only [AH.zN, AH.zP] <;> omega)) hP2 p (by omega) cs s m.pc (m.steps + 1) m.looks hm.pc ask nm gp2).mono ?_
       rintro r H4 ⟨rfl, hE4⟩
       have z4 := hE4.size
       have gr4 := (hE4.get A.size (by omega)).trans gr2
       simp (disch := first | omega | fail) only [amX2 Tryz.prog ro X, amX Tryz.prog ro X, amR Tryz.prog ro X, amS, seval, reduceCtorEq, ty3, ty4, ty5, ty9, ty22, ty56, ty106, ty122, ty133, ty182, ty183, e0, e2, tc, gr4]
       exact ⟨hf1 htick, hf2 _ (hX2.trans (hE4.x [p])), fun a n m' h2 => (hf3 htick h2).elim⟩
     ·obtain rfl : tk = 1 := by have h : opTake 13 = 1 := rfl; omega
      obtain ⟨n1, b1, l1, c1⟩ := top1 ha2 htkl
      have hz1 := htopz htkl
      have hin : insR (13, xt, (n : Int)) m = if ¬ NameOk (topA m.st) then .fin 2 (decS m.pc) (m.steps + 1) else if m.looks = 200 then .fin 3 ⟨#[]⟩ (m.steps + 1) else .look false (topA m.st) ⟨m.pc + 1, restR (13, xt, (n : Int)) m.st, m.steps + 1, m.looks + 1⟩ := rfl
      rw [hti', hin] at htick
      simp (disch := first | omega | fail) only [amX2 Tryz.prog ro X, amX Tryz.prog ro X, amR Tryz.prog ro X, amS, seval, reduceCtorEq, ty3, ty4, ty5, ty9, ty22, ty56, ty106, ty122, ty133, ty182, ty183, e0, e2, n1, b1, l1, c1]
      refine (Store.impl.isName_a _ (topA m.st)).mono ?_
      rintro r H3 ⟨rfl, rfl⟩
      by_cases j1 : NameOk (topA m.st)
      ·rw [if_neg (fun h => h j1)] at htick
       by_cases j2 : (m.looks : Int) = 200
       ·rw [if_pos (by omega)] at htick
        simp only at htick
        simp (disch := first | omega | fail) only [amX2 Tryz.prog ro X, amX Tryz.prog ro X, amR Tryz.prog ro X, amS, seval, reduceCtorEq, ty3, ty4, ty5, ty9, ty22, ty56, ty106, ty122, ty133, ty182, ty183, e0, e2, gp2, j1, j2]
        refine (end_a _ (by first | omega | (simp only [AH.zN, AH.zP] <;> omega)) p (by omega) cs s m.pc (m.steps + 1) m.looks ask nm gp2 3 ⟨#[]⟩).mono ?_
        rintro r H4 ⟨rfl, hE4⟩
        have z4 := hE4.size
        have gr4 := (hE4.get A.size (by omega)).trans gr2
        simp (disch := first | omega | fail) only [amX2 Tryz.prog ro X, amX Tryz.prog ro X, amR Tryz.prog ro X, amS, seval, reduceCtorEq, ty3, ty4, ty5, ty9, ty22, ty56, ty106, ty122, ty133, ty182, ty183, e0, e2, tc, gr4]
        exact ⟨hf1 htick, hf2 _ (hX2.trans (hE4.x [p])), fun a n m' h2 => (hf3 htick h2).elim⟩
       ·rw [if_neg (by omega)] at htick
        simp only at htick
        have hlk := hm.looks
        simp (disch := first | omega | fail) only [amX2 Tryz.prog ro X, amX Tryz.prog ro X, amR Tryz.prog ro X, amS, seval, reduceCtorEq, ty3, ty4, ty5, ty9, ty22, ty56, ty106, ty122, ty133, ty182, ty183, e0, e2, gp2, j1, j2]
        generalize hH4 : H3.put p _ = H4
        have z4 : H4.size = H3.size := by rw [← hH4]; rfl
        have hX4 : ExtX [p] H3 H4 := by rw [← hH4]; exact (ExtX.refl _ _).put (by simp) _
        have gp4 : H4.get p = .cells [cs.v, s.v, .int .i64 m.pc, .int .i64 (m.steps + 1 : Nat), .int .i64 (m.looks + 1 : Nat), .bool ask, .string nm] 7 := by rw [← hH4]; exact AH.gPs _ _ _
        have gx4 := (hX4.get H1.size (by omega) (by simp; omega)).trans gx2
        have gr4 := (hX4.get A.size (by omega) (by simp; omega)).trans gr2
        have hsb : s.nl = false → s.b ≠ p ∧ s.b < H3.size ∧ s.b ≠ A.size := fun h => ⟨by rcases hsp with h' | h'; rw [h] at h'; cases h'; exact h', by
         rcases hs2 with ⟨rfl, _⟩ | ⟨_, _, h, _⟩
         ·cases h
         ·exact h, by
         rcases hs2 with ⟨rfl, _⟩ | ⟨_, _, _, _, _, c, hg, _⟩
         ·cases h
         ·intro he; rw [he, gr2] at hg; cases hg⟩
        have hap : a.b ≠ p := by
         obtain ⟨e1, _, _, e2⟩ := hFs _ (ha3 _ (ha2.str (i := 0) (by rw [List.length_drop]; omega)).2.2.1)
         rw [e1]; exact (hsb e2).1
        have c4 : cellK a.o (H4.get a.b) = some (.string (topA m.st)) := by rw [hX4.get a.b b1 (by simpa using hap)]; exact c1
        clear hH4
        refine Wp.runG [] (by kernel_rfl) (.inl (by kernel_rfl)) ?_
        simp (disch := first | omega | fail) only [amR Tryz.prog ro X, amS, seval, reduceCtorEq, ty3, ty4, ty5, ty9, ty22, ty56, ty106, ty122, ty133, ty182, ty183, e0, e2, gp4, gx4, n1, b1, l1, c4]
        generalize hH5 : AH.put (AH.put H4 _ _) _ _ = H5
        have z5 : H5.size = H4.size := by rw [← hH5]; rfl
        have hX5 : ExtX [p] H4 H5 := by rw [← hH5]; exact ((ExtX.refl _ _).put (by simp) _).put (by simp) _
        have gp5 := (congrArg (AH.get · p) hH5).symm.trans (AH.gPs _ _ _)
        have gr5 := (hX5.get A.size (by omega) (by simp; omega)).trans gr4
        have hX35 := hX4.trans hX5
        have hs5 : Stk lo H5 s m.st := hs2.frame (by omega) (fun h => hX35.get _ (hsb h).2.1 (by simpa using (hsb h).1))
        obtain ⟨s6, u1, u2, u3, u4⟩ := hs5.upto (P := Tryz.prog) (t := 22) (by simp only [ty22]) (i := m.st.length - 1) (by omega)
        have hu5 : ((m.st.length : Int) - 1) = ((m.st.length - 1 : Nat) : Int) := by omega
        have u5 : ∀ k, aSlice Tryz.prog H5 22 s.v none (some (.int k ((m.st.length : Int) - 1))) none = some s6.v := fun k => by rw [hu5]; exact u1 k
        clear hH5
        simp (disch := first | omega | fail) only [amR Tryz.prog ro X, amS, seval, reduceCtorEq, ty3, ty4, ty5, ty9, ty22, ty56, ty106, ty122, ty133, ty182, ty183, e0, e2, gp5, gr5, u5]
        refine Wp.runG [] (by kernel_rfl) (.inl (by kernel_rfl)) ?_
        simp (disch := first | omega | fail) only [amR Tryz.prog ro X, amS, seval, reduceCtorEq, ty3, ty4, ty5, ty9, ty22, ty56, ty106, ty122, ty133, ty182, ty183, e0, e2, tc, gr5]
        have hX6 : ∀ c1 c2, ExtX [p] H ((H5.put p c1).put p c2) := fun c1 c2 => (((hX2.trans hX35).put (by simp) _).put (by simp) _)
        refine ⟨by rw [← hrun, htick]; rfl, hf2 _ (hX6 _ _), fun a' n' m' h2 => ?_⟩
        rw [← hrun, htick] at h2
        cases h2
        refine ⟨s6, rfl, u2.frame (by simp only [AH.zP]; omega) (fun h => ?_), ?_, ?_⟩
        ·rw [u4, AH.gPo (by rw [u3] at h; exact (hsb h).2.2), AH.gPo (by rw [u3] at h; exact (hsb h).1), AH.gPo (by rw [u3] at h; exact (hsb h).1)]
        ·rw [u3, u4]; exact hsp
        ·rw [u3, u4]; exact hs00
      ·rw [if_pos j1] at htick
       simp only at htick
       simp (disch := first | omega | fail) only [amX2 Tryz.prog ro X, amX Tryz.prog ro X, amR Tryz.prog ro X, amS, seval, reduceCtorEq, ty3, ty4, ty5, ty9, ty22, ty56, ty106, ty122, ty133, ty182, ty183, e0, e2, gp2, j1]
       refine (stuck_a _ (by first | omega | (simp only [AH.zN, AH.zP] <;> omega)) hP2 p (by omega) cs s m.pc (m.steps + 1) m.looks hm.pc ask nm gp2).mono ?_
       rintro r H4 ⟨rfl, hE4⟩
       have z4 := hE4.size
       have gr4 := (hE4.get A.size (by omega)).trans gr2
       simp (disch := first | omega | fail) only [amX2 Tryz.prog ro X, amX Tryz.prog ro X, amR Tryz.prog ro X, amS, seval, reduceCtorEq, ty3, ty4, ty5, ty9, ty22, ty56, ty106, ty122, ty133, ty182, ty183, e0, e2, tc, gr4]
       exact ⟨hf1 htick, hf2 _ (hX2.trans (hE4.x [p])), fun a n m' h2 => (hf3 htick h2).elim⟩
     ·obtain rfl : tk = 1 := by have h : opTake 14 = 1 := rfl; omega
      obtain ⟨n1, b1, l1, c1⟩ := top1 ha2 htkl
      have hz1 := htopz htkl
      have hin : insR (14, xt, (n : Int)) m = .fin 1 (topA m.st) (m.steps + 1) := rfl
      rw [hti', hin] at htick
      simp only at htick
      simp (disch := first | omega | fail) only [amX2 Tryz.prog ro X, amX Tryz.prog ro X, amR Tryz.prog ro X, amS, seval, reduceCtorEq, ty3, ty4, ty5, ty9, ty22, ty56, ty106, ty122, ty133, ty182, ty183, e0, e2, n1, b1, l1, c1]
      refine (end_a _ (by first | omega | (simp only [AH.zN, AH.zP] <;> omega)) p (by omega) cs s m.pc (m.steps + 1) m.looks ask nm gp2 1 (topA m.st)).mono ?_
      rintro r H3 ⟨rfl, hE3⟩
      have z3 := hE3.size
      have gr3 := (hE3.get A.size (by omega)).trans gr2
      simp (disch := first | omega | fail) only [amX2 Tryz.prog ro X, amX Tryz.prog ro X, amR Tryz.prog ro X, amS, seval, reduceCtorEq, ty3, ty4, ty5, ty9, ty22, ty56, ty106, ty122, ty133, ty182, ty183, e0, e2, tc, gr3]
      exact ⟨hf1 htick, hf2 _ (hX2.trans (hE3.x [p])), fun a n m' h2 => (hf3 htick h2).elim⟩
     ·obtain rfl : tk = 1 := by have h : opTake 15 = 1 := rfl; omega
      obtain ⟨n1, b1, l1, c1⟩ := top1 ha2 htkl
      have hz1 := htopz htkl
      have hin : insR (15, xt, (n : Int)) m = .fin 0 (topA m.st) (m.steps + 1) := rfl
      rw [hti', hin] at htick
      simp only at htick
      simp (disch := first | omega | fail) only [amX2 Tryz.prog ro X, amX Tryz.prog ro X, amR Tryz.prog ro X, amS, seval, reduceCtorEq, ty3, ty4, ty5, ty9, ty22, ty56, ty106, ty122, ty133, ty182, ty183, e0, e2, n1, b1, l1, c1]
      refine (end_a _ (by first | omega | (simp only [AH.zN, AH.zP] <;> omega)) p (by omega) cs s m.pc (m.steps + 1) m.looks ask nm gp2 0 (topA m.st)).mono ?_
      rintro r H3 ⟨rfl, hE3⟩
      have z3 := hE3.size
      have gr3 := (hE3.get A.size (by omega)).trans gr2
      simp (disch := first | omega | fail) only [amX2 Tryz.prog ro X, amX Tryz.prog ro X, amR Tryz.prog ro X, amS, seval, reduceCtorEq, ty3, ty4, ty5, ty9, ty22, ty56, ty106, ty122, ty133, ty182, ty183, e0, e2, tc, gr3]
      exact ⟨hf1 htick, hf2 _ (hX2.trans (hE3.x [p])), fun a n m' h2 => (hf3 htick h2).elim⟩
    ·rintro e3 H3 ⟨e30, e32, e35, ow, out, nx, e37, e38, hM⟩
     have hE3 := hM.ext
     have z3 := hE3.size
     have gp3 := (hE3.get p (by omega)).trans gp2
     have gr3 := (hE3.get A.size (by omega)).trans gr2
     obtain ⟨Fo, hFo⟩ := hM.row
     have hol := hFo.len
     have ho2 := hM.two
     have hofew := hM.few
     have hs3 := hs2.ext hE3
     have hX3 : ExtX [p] H H3 := hX2.trans (hE3.x _)
     simp (disch := first | omega | fail) only [amR Tryz.prog ro X, amS, seval, reduceCtorEq, ty3, ty4, ty5, ty9, ty22, ty56, ty106, ty122, ty133, ty182, ty183, e30, e32, e37, hol]
     refine Wp.loopC (fun k e A' => A' = H3 ∧ e 0 = .pointer (some ⟨p, 0, none⟩) ∧ e 2 = .pointer (some ⟨A.size, 0, none⟩) ∧ e 5 = .int .i64 ((m.st.length : Int) - tk) ∧ e 7 = ow.v ∧ e 8 = .int .i64 nx ∧ e 259 = ow.v ∧ e 260 = .int .i64 out.length ∧ ∃ i : Nat, i ≤ out.length ∧ k = out.length - i ∧ e 261 = .int .i64 i ∧ ∀ t ∈ out.take i, t.size ≤ 2000) (out.length - 0) ?_ ?_
     ·simp (disch := first | omega | fail) only [amV, amH, amQ, amL, amN Tryz.prog, amS, seval, reduceCtorEq, ty3, ty4, ty5, ty9, ty22, ty56, ty106, ty122, ty133, ty182, ty183, e30, e32, e35, e37, e38]
      exact ⟨0, by omega, rfl, rfl, by simp⟩
     ·rintro k e A' ⟨rfl, f0, f2, f5, f7, f8, f259, f260, i, hi, rfl, f261, hall⟩
      simp (disch := first | omega | fail) only [amR Tryz.prog ro X, amS, seval, reduceCtorEq, ty3, ty4, ty5, ty9, ty22, ty56, ty106, ty122, ty133, ty182, ty183, f260, f261]
      refine CondB.split (fun h => ?_) (fun h => ?_)
      ·have hil : i < out.length := by simp at h; omega
       obtain ⟨n1, b1, _, i1, c1, q1⟩ := hFo.str hil
       rw [aCell_eq] at c1
       by_cases j1 : (2000 : Int) < out[i].size
       ·have ht : tickR prog m = .fin 2 (decS m.pc) (m.steps + 1) := by rw [hti', hM.ins, if_neg (fun h => by have := h out[i] (List.getElem_mem hil); omega)]
        rw [ht] at htick
        simp only at htick
        simp (disch := first | omega | fail) only [amR Tryz.prog ro X, amS, seval, reduceCtorEq, ty3, ty4, ty5, ty9, ty22, ty56, ty106, ty122, ty133, ty182, ty183, f0, f2, f259, f260, f261, hol, n1, b1, i1, c1, j1]
        refine (stuck_a _ (by first | omega | (simp only [AH.zN, AH.zP] <;> omega)) (hP2.ext hE3) p (by omega) cs s m.pc (m.steps + 1) m.looks hm.pc ask nm gp3).mono ?_
        rintro r H4 ⟨rfl, hE4⟩
        have z4 := hE4.size
        have gr4 := (hE4.get A.size (by omega)).trans gr3
        simp (disch := first | omega | fail) only [amR Tryz.prog ro X, amS, seval, reduceCtorEq, ty3, ty4, ty5, ty9, ty22, ty56, ty106, ty122, ty133, ty182, ty183, f0, f2, tc, gr4]
        exact ⟨hf1 htick, hf2 _ (hX3.trans (hE4.x [p])), fun a n m' h2 => (hf3 htick h2).elim⟩
       ·simp (disch := first | omega | fail) only [amR Tryz.prog ro X, amS, seval, reduceCtorEq, ty3, ty4, ty5, ty9, ty22, ty56, ty106, ty122, ty133, ty182, ty183, f0, f2, f5, f7, f8, f259, f260, f261, hol, n1, b1, i1, c1, j1]
        exact ⟨out.length - (i + 1), by omega, i + 1, by omega, rfl, by simp, (all_take_succ hil).2 ⟨hall, by omega⟩⟩
      ·have hil : i = out.length := by simp at h; omega
       subst hil
       rw [List.take_of_length_le (Nat.le_refl _)] at hall
       have hgo : runR prog m = runR prog ⟨nx, m.st.take (m.st.length - tk) ++ out, m.steps + 1, m.looks⟩ := by
        rw [hti', hM.ins, if_pos hall] at htick
        exact htick
       have hgo' : tickR prog m = .go ⟨nx, m.st.take (m.st.length - tk) ++ out, m.steps + 1, m.looks⟩ := by rw [hti', hM.ins, if_pos hall]
       have hmok := (tickR_ok hok hm).1 _ hgo'
       have hst0 := (tickR_go hgo').1
       have htl : (m.st.take (m.st.length - tk)).length = m.st.length - tk := by rw [List.length_take]; omega
       obtain ⟨s6, u1, u2, u3, u4, u5, u6⟩ := hs3.upto3 (P := Tryz.prog) (t := 22) (by simp only [ty22]) (i := m.st.length - tk) (by omega) (by unfold BIG; omega)
       have hu5 : ((m.st.length : Int) - tk) = ((m.st.length - tk : Nat) : Int) := by omega
       have u7 : ∀ k k', aSlice Tryz.prog A' 22 s.v none (some (.int k ((m.st.length : Int) - tk))) (some (.int k' ((m.st.length : Int) - tk))) = some s6.v := fun k k' => by rw [hu5]; exact u1 k k'
       obtain ⟨vs, v1, v2⟩ := hFo.srcS
       obtain ⟨s7, H4, hap, w2, hE4, w4⟩ := u2.app (P := Tryz.prog) (ro := ro) (by omega) (u6.trans u5.symm) (t := 22) (by simp only [ty22]) v1 (v2 _) (by omega)
       have z4 := hE4.size
       have gp4 := (hE4.get p (by omega)).trans gp3
       simp (disch := first | omega | fail) only [amR Tryz.prog ro X, amS, seval, reduceCtorEq, ty3, ty4, ty5, ty9, ty22, ty56, ty106, ty122, ty133, ty182, ty183, f0, f2, f5, f7, f8, f259, f260, f261, gp3, u7, hap, gp4]
       have w5 : s7.nl = true ∨ s7.b ≠ p := by
        rcases w4 with ⟨w4, w4'⟩ | w4
        ·rw [w4, w4', u3, u4]; exact hsp
        ·exact .inr (by omega)
       refine ⟨2001 - (m.steps + 1), by omega, (((hX.trans hX3).trans (hE4.x _)).put (by simp) _).put (by simp) _, _, s7, ask, nm, hmok, rfl, by rw [← hgo]; exact hrun, rfl, w2.frame (by simp only [AH.zP]; omega) (fun h => ?_), w5, ?_⟩
       ·have hne : s7.b ≠ p := by rcases w5 with h' | h'; rw [h] at h'; cases h'; exact h'
        rw [AH.gPo hne, AH.gPo hne]
       ·rcases w4 with ⟨w4, w4'⟩ | w4
        ·rw [w4, w4', u3, u4]; exact hs00
        ·exact .inr (by omega)
end Go.Proofs.YtmelgjblkmbhjaaGreatDoor.Amu.Mach
