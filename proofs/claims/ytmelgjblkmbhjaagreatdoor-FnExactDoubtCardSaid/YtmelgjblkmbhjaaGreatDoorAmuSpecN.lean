import Derived.Test.YtmelgjblkmbhjaaGreatDoorAmuTy
import Derived.Test.YtmelgjblkmbhjaaGreatDoorAmRun
import Derived.Test.YtmelgjblkmbhjaaGreatDoorAmuSpecT
namespace Go.Proofs.YtmelgjblkmbhjaaGreatDoor.Amu.SpecN
open Go Go.AM Go.Proofs
set_option linter.all false
open Ty
variable {ro : Nat} {X : FuncId → List Value → AH → ARes → AH → Prop}
set_option maxRecDepth 10000
open SpecM (sc)
open SpecL (StR)
open Mach (tc)
theorem row_cells {A : AH} {b o n : Nat} {cs : List Value} (h : rowK o n (A.get b) = some cs) (j : Nat) (hj : j < n) : cellK (o + j) (A.get b) = cs[j]? := by
 obtain ⟨c, e, h1, h2, h3⟩ := rowK_inv h
 rw [h1]
 exact row_get h3 j hj
def OnWay (prog : TProgram) (l : List TReply) : Tick → Prop
 | .go m => MachOk m ∧ playR prog (runR prog m) (l.drop m.looks) = playR prog (startR prog) l
 | t => t = playR prog (startR prog) l
def left : Tick → Nat
 | .go m => 2001 - m.steps
 | _ => 0
theorem onWay_step {prog : TProgram} (hp : ProgOk prog) {l : List TReply} (hl : ∀ r ∈ l, r.2.2.size ≤ 2000) {m : Mach} (h : OnWay prog l (.go m)) : OnWay prog l (stepS prog l m) ∧ left (stepS prog l m) < left (.go m) := by
 obtain ⟨hm, hq⟩ := h
 have hst := hm.steps
 have h1 := playS (p := prog) (l := l) hst
 have h2 := stepS_ok hp hl hm
 rw [hq] at h1
 cases hs : stepS prog l m with
 | go m' =>
   rw [hs] at h1
   have h3 := stepS_go hs
   exact ⟨⟨h2.1 m' hs, h1.symm⟩, by show 2001 - m'.steps < 2001 - m.steps; omega⟩
 | fin c t s => rw [hs] at h1; exact ⟨h1.symm, by show 0 < 2001 - m.steps; omega⟩
 | look a n m' => rw [hs] at h1; exact ⟨h1.symm, by show 0 < 2001 - m.steps; omega⟩
def StC (lo : Nat) (A : AH) (b : Nat) : Tick → Prop
 | .go m => ∃ s : Sl, A.get b = .cells [.int .i64 m.pc, s.v, .int .i64 m.steps, .int .i64 m.looks, .bool false, .int .i64 0, .string ⟨#[]⟩, .bool false, .string ⟨#[]⟩, .bool false] 10 ∧ Stk lo A s m.st
 | .fin c t st => ∃ (s : Sl) (pc lk : Nat) (ask : Bool) (nm : ByteArray), A.get b = .cells [.int .i64 pc, s.v, .int .i64 st, .int .i64 lk, .bool true, .int .i64 c, .string t, .bool ask, .string nm, .bool false] 10
 | .look a n m => ∃ (s : Sl) (pc lk : Nat), A.get b = .cells [.int .i64 pc, s.v, .int .i64 m.steps, .int .i64 lk, .bool false, .int .i64 0, .string ⟨#[]⟩, .bool a, .string n, .bool true] 10
set_option maxHeartbeats 4000000 in
theorem next_a (A : AH) (hro : ro ≤ A.size) (cs : Sl) (prog : TProgram) (F : List Nat) (hc : SlR A cs prog F) (hpl : prog.length < 281474976710656) (us : Sl) (l : List TReply) (G : List Nat) (hu : SlR A us l G) (hlb : l.length < 4294967296) :
 ACalls Tryz.prog ro X 65 [.agg #[cs.v], us.v] A (fun r A' => r = .ret (tc (nextR prog l)) ∧ Ext A A') := by
 have hulen := hu.len
 refine ACalls.enterQ (rs := [.cell 4 122]) Tryz.func65 rfl (by kernel_rfl) rfl ?_
 simp (maxSteps := 2000000) (disch := first | omega | (simp only [AH.zN, AH.zP] <;> omega) | fail) only [amR Tryz.prog ro X, amS, seval, reduceCtorEq, ty3, ty4, ty9, ty22, ty56, ty58, ty120, ty122, ty126, ty195]
 generalize hA1 : AH.new (AH.new A _) _ = A1
 have z1 : A1.size = A.size + 2 := by rw [← hA1]; rfl
 have hE1 : Ext A A1 := by rw [← hA1]; exact (by ((repeat' (first | exact Ext.refl _ | assumption | refine Ext.trans ?_ (Ext.new _ _) | refine Ext.put ?_ ?_ _ | refine Ext.trans ?_ (by assumption))) <;> (first | omega | (simp only [AH.zN, AH.zP] <;> omega))))
 have gb1 : A1.get A.size = .cells [cs.v] 1 := by rw [← hA1, AH.gNo (by simp only [AH.zN]; omega)]; exact AH.gNs _ _
 have gt1 : A1.get (A.size + 1) = .cells [.bool false, .int .i64 0, .string ByteArray.empty, .bool false, .string ByteArray.empty, .int .i64 0] 6 := by rw [← hA1]; exact AH.gNs _ _
 clear hA1
 refine (Prog.specValid_a _ (by first | omega | (simp only [AH.zN, AH.zP] <;> omega)) cs prog F (hc.ext hE1) hpl).mono ?_
 rintro r A2 ⟨rfl, hE2⟩
 have z2 := hE2.size
 have gt2 := (hE2.get _ (by omega)).trans gt1
 have gb2 := (hE2.get _ (by omega)).trans gb1
 have hEA2 := hE1.trans hE2
 by_cases hv : ProgOk prog
 case neg =>
  have hbad : nextBad prog l := .inl hv
  simp (disch := first | omega | fail) only [amR Tryz.prog ro X, amS, seval, reduceCtorEq, ty3, ty4, ty9, ty22, ty56, ty58, ty120, ty122, ty126, ty195, hv, tc, gt2]
  exact ⟨by rw [nextR, if_pos hbad]; rfl, Ext.put hEA2 (by omega) _⟩
 by_cases hl2 : (200 : Int) < l.length
 ·have hbad : nextBad prog l := .inr (.inl (by omega))
  simp (disch := first | omega | fail) only [amR Tryz.prog ro X, amS, seval, reduceCtorEq, ty3, ty4, ty9, ty22, ty56, ty58, ty120, ty122, ty126, ty195, hv, hl2, hulen, tc, gt2]
  exact ⟨by rw [nextR, if_pos hbad]; rfl, Ext.put hEA2 (by omega) _⟩
 simp (disch := first | omega | fail) only [amR Tryz.prog ro X, amS, seval, reduceCtorEq, ty3, ty4, ty9, ty22, ty56, ty58, ty120, ty122, ty126, ty195, hv, hl2, hulen]
 refine Wp.loopC (fun k e H => H = A2 ∧ e 1 = us.v ∧ e 2 = .pointer (some ⟨A.size, 0, none⟩) ∧ e 4 = .pointer (some ⟨A.size + 1, 0, none⟩) ∧ ∃ i : Nat, i ≤ l.length ∧ k = l.length - i ∧ e 5 = .int .i64 i ∧ ∀ r ∈ l.take i, ¬ replyBad r) (l.length - 0) ?_ ?_
 ·simp (disch := first | omega | fail) only [amV, amH, amQ, amL, amN Tryz.prog, amS, seval, reduceCtorEq, ty3, ty4, ty9, ty22, ty56, ty58, ty120, ty122, ty126, ty195]
  exact ⟨0, by omega, rfl, rfl, by simp⟩
 rintro k e H ⟨rfl, e1, e2, e4, i, hi, rfl, e5, hall⟩
 simp (disch := first | omega | fail) only [amR Tryz.prog ro X, amS, seval, reduceCtorEq, ty3, ty4, ty9, ty22, ty56, ty58, ty120, ty122, ty126, ty195, e1, e5, hulen]
 refine CondB.split (fun h => ?_) (fun h => ?_)
 ·have hil : i < l.length := by simp at h; omega
  obtain ⟨n1, b1, i1, r1, _⟩ := SpecL.row_rep (hu.ext hEA2) hil
  have c1 := row_cells r1 1 (by omega)
  have c2 := row_cells r1 2 (by omega)
  have hts := all_take_succ (p := fun r => ¬ replyBad r) hil
  by_cases j1 : (2000 : Int) < l[i].2.2.size
  ·have hbad : nextBad prog l := .inr (.inr fun h => h _ (List.getElem_mem hil) (.inl (by omega)))
   simp (disch := first | omega | fail) only [amR Tryz.prog ro X, amS, seval, reduceCtorEq, ty3, ty4, ty9, ty22, ty56, ty58, ty120, ty122, ty126, ty195, e1, e2, e4, e5, hulen, n1, b1, i1, c1, c2, j1, tc, gt2]
   exact ⟨by rw [nextR, if_pos hbad]; rfl, Ext.put hEA2 (by omega) _⟩
  by_cases j2 : l[i].2.1 < 0
  ·have hbad : nextBad prog l := .inr (.inr fun h => h _ (List.getElem_mem hil) (.inr (.inl j2)))
   simp (disch := first | omega | fail) only [amR Tryz.prog ro X, amS, seval, reduceCtorEq, ty3, ty4, ty9, ty22, ty56, ty58, ty120, ty122, ty126, ty195, e1, e2, e4, e5, hulen, n1, b1, i1, c1, c2, j1, j2, tc, gt2]
   exact ⟨by rw [nextR, if_pos hbad]; rfl, Ext.put hEA2 (by omega) _⟩
  by_cases j3 : 7 < l[i].2.1
  ·have hbad : nextBad prog l := .inr (.inr fun h => h _ (List.getElem_mem hil) (.inr (.inr j3)))
   simp (disch := first | omega | fail) only [amR Tryz.prog ro X, amS, seval, reduceCtorEq, ty3, ty4, ty9, ty22, ty56, ty58, ty120, ty122, ty126, ty195, e1, e2, e4, e5, hulen, n1, b1, i1, c1, c2, j1, j2, j3, tc, gt2]
   exact ⟨by rw [nextR, if_pos hbad]; rfl, Ext.put hEA2 (by omega) _⟩
  simp (disch := first | omega | fail) only [amR Tryz.prog ro X, amS, seval, reduceCtorEq, ty3, ty4, ty9, ty22, ty56, ty58, ty120, ty122, ty126, ty195, e1, e2, e4, e5, hulen, n1, b1, i1, c1, c2, j1, j2, j3]
  exact ⟨l.length - (i + 1), by omega, i + 1, by omega, rfl, by simp, hts.2 ⟨hall, by rintro (h | h | h); omega; exact j2 h; exact j3 h⟩⟩
 ·have hil : i = l.length := by simp at h; omega
  subst hil
  rw [List.take_of_length_le (Nat.le_refl _)] at hall
  have hgood : ¬ nextBad prog l := by
   rintro (h | h | h)
   ·exact h hv
   ·omega
   ·exact h hall
  have hlz : ∀ r ∈ l, r.2.2.size ≤ 2000 := fun r hr => by
   have := hall r hr
   have h2 : ¬ 2000 < r.2.2.size := fun h => this (.inl h)
   omega
  simp (disch := first | omega | fail) only [amR Tryz.prog ro X, amS, seval, reduceCtorEq, ty3, ty4, ty9, ty22, ty56, ty58, ty120, ty122, ty126, ty195, e1, e2, e4]
  generalize hA3 : AH.put (H.new _) H.size _ = A3
  have z3 : A3.size = H.size + 1 := by rw [← hA3]; rfl
  have hE3 : Ext H A3 := by rw [← hA3]; exact (by ((repeat' (first | exact Ext.refl _ | assumption | refine Ext.trans ?_ (Ext.new _ _) | refine Ext.put ?_ ?_ _ | refine Ext.trans ?_ (by assumption))) <;> (first | omega | (simp only [AH.zN, AH.zP] <;> omega))))
  have g3 : A3.get H.size = .cells [.int .i64 0, Sl.nil.v, .int .i64 0, .int .i64 0, .bool false, .int .i64 0, .string ⟨#[]⟩, .bool false, .string ⟨#[]⟩, .bool false] 10 := by rw [← hA3]; exact AH.gPs _ _ _
  clear hA3
  have hcH := hc.ext hEA2
  have huH := hu.ext hEA2
  refine Wp.loopC (fun k e' H' => Ext H H' ∧ e' 1 = us.v ∧ e' 2 = .pointer (some ⟨A.size, 0, none⟩) ∧ e' 4 = .pointer (some ⟨A.size + 1, 0, none⟩) ∧ e' 6 = .pointer (some ⟨H.size, 0, none⟩) ∧ H.size < H'.size ∧ ∃ t, k = left t ∧ OnWay prog l t ∧ StC H.size H' H.size t) (left (.go m0)) ?_ ?_
  ·simp (disch := first | omega | fail) only [amV, amH, amQ, amL, amN Tryz.prog, amS, seval, reduceCtorEq, ty3, ty4, ty9, ty22, ty56, ty58, ty120, ty122, ty126, ty195, e1, e2, e4]
   exact ⟨hE3, by omega, .go m0, rfl, ⟨m0_ok, rfl⟩, .nil, g3, .nil⟩
  rintro k e' H' ⟨hE', e1', e2', e4', e6', zH', t, rfl, hway, hst⟩
  have gt' := (hE'.get _ (by omega)).trans gt2
  have gb' := (hE'.get _ (by omega)).trans gb2
  cases t with
  | fin c tx st =>
    obtain ⟨s, pc, lk, ask, nm, gz⟩ := hst
    simp (disch := first | omega | fail) only [amR Tryz.prog ro X, amS, seval, reduceCtorEq, ty3, ty4, ty9, ty22, ty56, ty58, ty120, ty122, ty126, ty195, e6', gz, e4', tc, gt']
    exact ⟨by rw [nextR, if_neg hgood, ← show _ = playR prog (startR prog) l from hway]; rfl, (hEA2.trans hE').put (by omega) _⟩
  | look a n m =>
    obtain ⟨s, pc, lk, gz⟩ := hst
    simp (disch := first | omega | fail) only [amR Tryz.prog ro X, amS, seval, reduceCtorEq, ty3, ty4, ty9, ty22, ty56, ty58, ty120, ty122, ty126, ty195, e6', gz, e4', tc, gt']
    exact ⟨by rw [nextR, if_neg hgood, ← show _ = playR prog (startR prog) l from hway]; rfl, (hEA2.trans hE').put (by omega) _⟩
  | go m =>
    obtain ⟨s, gz, hs⟩ := hst
    obtain ⟨hway', hlt⟩ := onWay_step hv hlz hway
    simp (disch := first | omega | fail) only [amR Tryz.prog ro X, amS, seval, reduceCtorEq, ty3, ty4, ty9, ty22, ty56, ty58, ty120, ty122, ty126, ty195, e6', gz, e2', e1', gb']
    refine (SpecT.l2Step_a H H' (by omega) hE' cs prog F hcH hv us l G huH hlz m hway.1 s hs).mono ?_
    rintro r A4 ⟨v, rfl, hv4, hE4, z4, hfr⟩
    have gz4 := (hfr H.size (by omega) (Turn.stk_ne hs (by decide) gz)).trans gz
    have hfin : ∀ (cs' : List Value), Ext H (A4.put H.size (.cells cs' 10)) := fun cs' => hE4.put (Nat.le_refl _) _
    cases hss : stepS prog l m with
    | go m' =>
      rw [hss] at hv4 hway' hlt
      obtain ⟨s', rfl, hs'⟩ := hv4
      simp (disch := first | omega | fail) only [amR Tryz.prog ro X, amS, seval, reduceCtorEq, ty3, ty4, ty9, ty22, ty56, ty58, ty120, ty122, ty126, ty195, sc, e6', gz4, e1', e2', e4']
      refine ⟨left (.go m'), hlt, hfin _, by omega, .go m', rfl, hway', s', AH.gPs _ _ _, hs'.frame (Nat.le_refl _) (fun hn => AH.gPo (by rcases Turn.stk_ne hs' (by decide) gz4 with h | h; rw [h] at hn; cases hn; exact Ne.symm h))⟩
    | fin c tx st =>
      rw [hss] at hv4 hway' hlt
      obtain ⟨s', pc, lk, ask, nm, rfl⟩ := hv4
      simp (disch := first | omega | fail) only [amR Tryz.prog ro X, amS, seval, reduceCtorEq, ty3, ty4, ty9, ty22, ty56, ty58, ty120, ty122, ty126, ty195, sc, e6', gz4, e1', e2', e4']
      refine ⟨_, hlt, hfin _, by omega, .fin c tx st, rfl, hway', s', pc, lk, ask, nm, AH.gPs _ _ _⟩
    | look a n m' =>
      rw [hss] at hv4 hway' hlt
      obtain ⟨s', pc, lk, rfl⟩ := hv4
      simp (disch := first | omega | fail) only [amR Tryz.prog ro X, amS, seval, reduceCtorEq, ty3, ty4, ty9, ty22, ty56, ty58, ty120, ty122, ty126, ty195, sc, e6', gz4, e1', e2', e4']
      refine ⟨_, hlt, hfin _, by omega, .look a n m', rfl, hway', s', pc, lk, AH.gPs _ _ _⟩
end Go.Proofs.YtmelgjblkmbhjaaGreatDoor.Amu.SpecN
