import Derived.Test.YtaiagocjnnfkmaaAmuTy
import Derived.Test.YtaiagocjnnfkmaaAmTX
import Derived.Test.YtaiagocjnnfkmaaAmuSum
namespace Go.Proofs.Ytaiagocjnnfkmaa.Amu.Draw1
open Go Go.AM Go.Proofs
set_option linter.unusedVariables false
set_option linter.unusedSimpArgs false
open Ty
variable {ro : Nat} {X : FuncId → List Value → AH → ARes → AH → Prop}
set_option maxRecDepth 10000
def RdV (A : AH) (b N : Nat) : Prop := ∃ (s : Sl) (l : List UInt8) (F : List Nat) (p : Nat), A.get b = .cells [s.v, .int .i64 p] 2 ∧ b < A.size ∧ SlR A s l F ∧ (∀ x ∈ F, x < b) ∧ l.length ≤ 2000 ∧ p ≤ N
theorem RdV.lt {A : AH} {b N : Nat} (h : RdV A b N) : b < A.size := by obtain ⟨_, _, _, _, _, hb, _⟩ := h; exact hb
theorem RdV.frame {A A' : AH} {b N : Nat} (h : RdV A b N) (hz : A.size ≤ A'.size) (hg : ∀ x, x ≤ b → A'.get x = A.get x) : RdV A' b N := by
 obtain ⟨s, l, F, p, g, hb, hs, hF, hl, hp⟩ := h
 exact ⟨s, l, F, p, (hg b (Nat.le_refl _)).trans g, by omega, hs.frame fun x hx => ⟨hg x (Nat.le_of_lt (hF x hx)), by have := hF x hx; omega⟩, hF, hl, hp⟩
theorem RdV.mono {A : AH} {b N M : Nat} (h : RdV A b N) (hn : N ≤ M) : RdV A b M := by
 obtain ⟨s, l, F, p, g, hb, hs, hF, hl, hp⟩ := h
 exact ⟨s, l, F, p, g, hb, hs, hF, hl, by omega⟩
theorem RdV.ext {A A' : AH} {b N : Nat} (h : RdV A b N) (hE : Ext A A') : RdV A' b N := h.frame hE.size fun x hx => hE.get x (by have := h.lt; omega)
theorem RdV.grow {A A' : AH} {b N lo c : Nat} (h : RdV A b N) (hG : Grow lo c A A') (hl : b < lo) : RdV A' b N := h.frame hG.size fun x hx => hG.get x (by have := h.lt; omega) (.inl (by omega))
theorem extx_acc {α : Type} [Dat α] {lo b : Nat} {A A' : AH} {s : Sl} {l : List α} (h : Acc lo A s l []) (hX : ExtX [b] A A') (hb : b < lo) : Acc lo A' s l [] :=
 h.frame hX.size fun x hx hm => by
  rcases hm with ⟨_, h1, _⟩ | hm
  ·exact hX.get x hx (by simp; omega)
  ·cases hm
theorem grow_x {A A' : AH} {b lo c : Nat} (hG : Grow lo c A A') (A0 : AH) (h : A0.size ≤ lo) (hX : ExtX [b] A0 A) : ExtX [b] A0 A' :=
 ⟨Nat.le_trans hX.size hG.size, fun x hx hn => (hG.get x (Nat.lt_of_lt_of_le hx hX.size) (.inl (by omega))).trans (hX.get x hx hn)⟩
theorem takeU {P : Program} {t : TypeId} {A : AH} {s : Sl} {l : List UInt8} {F : List Nat} (h : SlR A s l F) (ht : tElemSize P t = some 1) {n : Nat} (h0 : 0 < n) (hn : n ≤ l.length) :
 ∃ c, aSlice P A t s.v none (some (.int .i64 n)) none = some (Sl.mk s.nl s.b s.o n c).v ∧ SlR A (Sl.mk s.nl s.b s.o n c) (l.take n) F := by
 cases h with
 | nil h hl hF => subst hl; simp at hn; omega
 | empty h _ _ hl hF => subst hl; simp at hn; omega
 | inB h =>
   obtain ⟨h1, h2, h3, h4, c, cs, G, h5, h6, h7, h8, rfl⟩ := h
   obtain ⟨e1, rfl⟩ := h8.u8
   have hw : Dat.w UInt8 = 1 := rfl
   rw [hw] at h5
   simp only [hw, Nat.mul_one] at h6 h7
   have hin : ∀ c2, (c2 = BIG ∨ (n ≤ c2 ∧ c2 < BIG)) → SlR A (Sl.mk s.nl s.b s.o n c2) (l.take n) (s.b :: []) := fun c2 hc2 => by
    refine .inB ⟨h1, h2, by simp; omega, hc2, c, (l.take n).map bv, [], h5, by simp only [hw, Nat.mul_one]; omega, ?_, ?_, rfl⟩
    ·simp only [hw, Nat.mul_one]
     rw [List.map_take, ← e1, ← h7, List.take_take, Nat.min_eq_left (by omega)]
    ·have : ∀ l : List UInt8, Reps A l (l.map bv) [] := by
      intro l
      induction l with
      | nil => exact .nil
      | cons x l ih => exact .cons (c := [bv x]) (F := []) ⟨rfl, rfl⟩ ih
     exact this _
   have hle : n ≤ s.len := by omega
   rcases h4 with h4 | ⟨h4, h4'⟩
   ·refine ⟨BIG, ?_, hin _ (.inl rfl)⟩
    unfold Sl.v aSlice aBound
    simp [ht, h1, h4, h5, Addr.add, hle]
   ·refine ⟨s.cap, ?_, hin _ (.inr ⟨by omega, h4'⟩)⟩
    unfold Sl.v aSlice aBound
    simp [ht, h1, h4', Addr.add, hle]
theorem xor_range {a b : Int} (ha : 0 ≤ a ∧ a < 4611686018427387904) (hb : 0 ≤ b ∧ b < 4611686018427387904) :
 ∃ c : Nat, IntKind.i64.wrap ((BitVec.ofInt IntKind.i64.bits a ^^^ BitVec.ofInt IntKind.i64.bits b).toNat : Int) = c := by
 have e1 : ∀ c : Int, 0 ≤ c → c < 4611686018427387904 → (BitVec.ofInt IntKind.i64.bits c).toNat = c.toNat := by
  intro c h0 h1
  rw [BitVec.toNat_ofInt]
  show (c % (2 ^ 64 : Nat)).toNat = _
  rw [Int.emod_eq_of_lt h0 (by omega)]
 have e2 : (BitVec.ofInt IntKind.i64.bits a ^^^ BitVec.ofInt IntKind.i64.bits b).toNat < 2 ^ 62 := by
  rw [BitVec.toNat_xor, e1 a ha.1 ha.2, e1 b hb.1 hb.2]
  exact Nat.xor_lt_two_pow (by omega) (by omega)
 have e3 : (BitVec.ofInt IntKind.i64.bits a ^^^ BitVec.ofInt IntKind.i64.bits b).toNat < 4611686018427387904 := e2
 exact ⟨_, i64_small (by omega) (by omega)⟩
theorem xfin {S : Int} (hS : 0 ≤ S ∧ S < 4611686018427387904) {n : Nat} (hn : 0 < n) : ∃ k : Nat, (IntKind.i64.wrap ((BitVec.ofInt IntKind.i64.bits S ^^^ BitVec.ofInt IntKind.i64.bits (S.tdiv 64)).toNat : Int)).tmod (n : Int) = (k : Int) ∧ k < n := by
 obtain ⟨c, hc⟩ := xor_range hS (b := S.tdiv 64) (by rw [Int.tdiv_eq_ediv_of_nonneg hS.1]; omega)
 rw [hc]
 exact ⟨c % n, rfl, Nat.mod_lt _ hn⟩
theorem pfin {Z : Int} {n : Nat} {Q : Prop} (hZ : ∃ k : Nat, Z = (k : Int) ∧ k < n) (hQ : ∃ k' : Nat, ARes.ret (.int .i64 ((0 : Nat) : Int)) = .ret (.int .i64 k') ∧ k' < n ∧ Q) : ∃ k : Nat, ARes.ret (.int .i64 Z) = .ret (.int .i64 k) ∧ k < n ∧ Q := by
 obtain ⟨k, hk, hkn⟩ := hZ
 obtain ⟨_, _, _, hq⟩ := hQ
 exact ⟨k, by rw [hk], hkn, hq⟩
theorem byte_at {A : AH} {s : Sl} {l : List UInt8} {F : List Nat} (h : SlR A s l F) {i : Nat} (hi : i < l.length) : s.nl = false ∧ s.b < A.size ∧ s.b ∈ F ∧ i < s.len ∧ cellK (s.o + i) (A.get s.b) = some (.int .u8 l[i].toNat) := by
 obtain ⟨n1, b1, m1, i1, v, Fi, c1, q1, _⟩ := h.row1 rfl hi
 rw [aCell_eq] at c1
 obtain ⟨e, _⟩ := q1
 cases e
 exact ⟨n1, b1, m1, i1, c1⟩
theorem tm (m n : Nat) : ((m : Int)).tmod (n : Int) = ((m % n : Nat) : Int) := rfl
theorem td (m n : Nat) : ((m : Int)).tdiv (n : Int) = ((m / n : Nat) : Int) := rfl
theorem pick_a (A : AH) (b N : Nat) (hR : RdV A b N) (hN : N < 1099511627776) (hro : ro ≤ b) (n : Nat) (hn : 0 < n ∧ n < 1073741824) :
 ACalls Try.prog ro X 33 [.pointer (some ⟨b, 0, none⟩), .int .i64 n] A (fun r A' => ∃ k : Nat, r = .ret (.int .i64 k) ∧ k < n ∧ RdV A' b (N + 1) ∧ ExtX [b] A A') := by
 obtain ⟨s, l, F, p, hg, hb, h, hF, hl, hp⟩ := hR
 have hfin : ∀ k : Nat, k < n → ∃ k' : Nat, ARes.ret (.int .i64 k) = .ret (.int .i64 k') ∧ k' < n ∧ RdV (A.put b (.cells [s.v, .int .i64 ((p : Int) + 1)] 2)) b (N + 1) ∧ ExtX [b] A (A.put b (.cells [s.v, .int .i64 ((p : Int) + 1)] 2)) := fun k hk =>
  ⟨k, rfl, hk, ⟨s, l, F, p + 1, AH.gPs _ _ _, hb, h.frame fun x hx => ⟨AH.gPo (by have := hF x hx; omega), by have := hF x hx; show x < A.size; omega⟩, hF, hl, by omega⟩, (ExtX.refl _ _).put (by simp) _⟩
 refine ACalls.enterQ (rs := [.tmp 4]) Try.func33 rfl (by kernel_rfl) rfl ?_
 have hlen := h.len
 have hn1 : ¬ (n : Int) < 1 := by omega
 have hn0 : ¬ (n : Int) = 0 := by omega
 have hw1 : IntKind.i64.wrap ((p : Int) + 1) = (p : Int) + 1 := i64_small (by omega) (by omega)
 have hp3 : (p : Int) + 1 - 1 = p := by omega
 by_cases h0 : (l.length : Int) = 0
 ·simp (maxSteps := 2000000) (disch := first | omega | (simp only [AH.zN, AH.zP] <;> omega) | fail) only [amR Try.prog ro X, amS, seval, reduceCtorEq, ty3, ty5, ty44, ty59, hg, hlen, hn1, h0, hw1]
  exact hfin 0 hn.1
 by_cases h1 : (p : Int) < l.length
 ·obtain ⟨n1, b1, m1, i1, c1⟩ := byte_at h (i := p) (by omega)
  have hne : ¬ s.b = b := fun e => by have := hF _ m1; omega
  have hb8 := (l[p]'(by omega)).toNat_lt
  simp (maxSteps := 2000000) (disch := first | omega | (simp only [AH.zN, AH.zP] <;> omega) | fail) only [amR Try.prog ro X, amS, seval, reduceCtorEq, ty3, ty5, ty44, ty59, hg, hlen, hn1, hn0, h0, hw1, hp3, h1, n1, c1, tm]
  exact hfin (l[p].toNat % n) (Nat.mod_lt _ hn.1)
 ·have hlp : 0 < l.length := by omega
  have j1 : p % l.length < l.length := Nat.mod_lt _ hlp
  have j2 : (p * 7 + 3) % l.length < l.length := Nat.mod_lt _ hlp
  have j3 : p / l.length ≤ p := Nat.div_le_self _ _
  have t2 : ((p : Int) * 7 + 3).tmod (l.length : Int) = (((p * 7 + 3) % l.length : Nat) : Int) := rfl
  obtain ⟨n1, b1, m1, i1, c1⟩ := byte_at h j1
  obtain ⟨_, _, _, i2, c2⟩ := byte_at h j2
  have hne : ¬ s.b = b := fun e => by have := hF _ m1; omega
  have hb8 := (l[p % l.length]'j1).toNat_lt
  have hb9 := (l[(p * 7 + 3) % l.length]'j2).toNat_lt
  simp (maxSteps := 2000000) (disch := first | omega | (simp only [AH.zN, AH.zP] <;> omega) | fail) only [amR Try.prog ro X, amS, seval, reduceCtorEq, ty3, ty5, ty44, ty59, hg, hlen, hn1, h0, hw1, hp3, h1]
  have e1 : ((p : Int) % (l.length : Int)).toNat = p % l.length := rfl
  have e2 : (((p : Int) * 7 + 3) % (l.length : Int)).toNat = (p * 7 + 3) % l.length := rfl
  obtain ⟨q, hq0⟩ : ∃ q : Nat, q = p / l.length := ⟨_, rfl⟩
  rw [← hq0] at j3
  have hq : IntKind.i64.wrap ((p : Int) / (l.length : Int)) = (q : Int) := by
   have : (p : Int) / (l.length : Int) = (q : Int) := by rw [hq0]; rfl
   rw [this]
   exact i64_small (by omega) (by omega)
  have u1 : 0 ≤ ((p : Int) * 7 + 3) % (l.length : Int) ∧ ((p : Int) * 7 + 3) % (l.length : Int) < l.length := ⟨Int.emod_nonneg _ h0, Int.emod_lt_of_pos _ (by omega)⟩
  refine Wp.runG [] (by kernel_rfl) (.inl (by kernel_rfl)) ?_
  simp (maxSteps := 2000000) (disch := first | omega | (simp only [AH.zN, AH.zP] <;> omega) | fail) only [amR Try.prog ro X, amS, seval, reduceCtorEq, ty3, ty5, ty44, ty59, hg, hlen, hn1, hn0, h0, hw1, hp3, h1, n1, c1, c2, tm, td, t2, e1, e2, u1, hq]
  refine pfin (xfin ?_ hn.1) (hfin 0 hn.1)
  omega
theorem open_a (A : AH) (hro : ro ≤ A.size) (s : Sl) (l : List UInt8) (F : List Nat) (h : SlR A s l F) (hl : l.length < 281474976710656) :
 ACalls Try.prog ro X 32 [s.v] A (fun r A' => r = .ret (.pointer (some ⟨A.size, 0, none⟩)) ∧ RdV A' A.size 0 ∧ Ext A A') := by
 refine ACalls.enterQ (rs := [.tmp 2]) Try.func32 rfl (by kernel_rfl) rfl ?_
 have hlen := h.len
 by_cases hb : (2000 : Int) < l.length
 ·obtain ⟨c, hs, h2⟩ := takeU (P := Try.prog) (t := 44) h (by simp only [ty44]) (n := 2000) (by omega) (by omega)
  have hs' : aSlice Try.prog A 44 s.v none (some (.int .i64 2000)) none = _ := hs
  simp (maxSteps := 2000000) (disch := first | omega | (simp only [AH.zN, AH.zP] <;> omega) | fail) only [amR Try.prog ro X, amS, seval, reduceCtorEq, ty3, ty5, ty44, ty59, hlen, hb, hs']
  exact ⟨⟨_, _, F, 0, AH.gNs _ _, Nat.lt_succ_self _, h2.ext (Ext.new _ _), h.bound, by simp; omega, Nat.le_refl _⟩, Ext.new _ _⟩
 ·simp (maxSteps := 2000000) (disch := first | omega | (simp only [AH.zN, AH.zP] <;> omega) | fail) only [amR Try.prog ro X, amS, seval, reduceCtorEq, ty3, ty5, ty44, ty59, hlen, hb]
  exact ⟨⟨s, l, F, 0, AH.gNs _ _, Nat.lt_succ_self _, h.ext (Ext.new _ _), h.bound, by omega, Nat.le_refl _⟩, Ext.new _ _⟩
theorem text_a (A : AH) (b N : Nat) (hR : RdV A b N) (hN : N + 7 < 1099511627776) (hro : ro ≤ b) :
 ACalls Try.prog ro X 34 [.pointer (some ⟨b, 0, none⟩)] A (fun r A' => ∃ t : ByteArray, r = .ret (.string t) ∧ t.size ≤ 6 ∧ RdV A' b (N + 7) ∧ ExtX [b] A A') := by
 refine ACalls.enterQ (rs := [.tmp 2]) Try.func34 rfl (by kernel_rfl) rfl ?_
 simp (maxSteps := 2000000) (disch := first | omega | (simp only [AH.zN, AH.zP] <;> omega) | fail) only [amR Try.prog ro X, amS, seval, reduceCtorEq, ty3, ty5, ty9, ty44]
 refine (pick_a A b N hR (by omega) hro 12 (by omega)).mono ?_
 rintro r A1 ⟨k, rfl, hk, hR1, hX1⟩
 have hdone : ∀ t : ByteArray, t.size ≤ 6 → ∃ t' : ByteArray, ARes.ret (.string t) = .ret (.string t') ∧ t'.size ≤ 6 ∧ RdV A1 b (N + 7) ∧ ExtX [b] A A1 := fun t ht => ⟨t, rfl, ht, hR1.mono (by omega), hX1⟩
 by_cases k0 : (k : Int) = 0
 ·simp (maxSteps := 2000000) (disch := first | omega | (simp only [AH.zN, AH.zP] <;> omega) | fail) only [amR Try.prog ro X, amS, seval, reduceCtorEq, ty3, ty5, ty9, ty44, k0]
  exact hdone _ (by decide)
 by_cases k1 : (k : Int) = 1
 ·simp (maxSteps := 2000000) (disch := first | omega | (simp only [AH.zN, AH.zP] <;> omega) | fail) only [amR Try.prog ro X, amS, seval, reduceCtorEq, ty3, ty5, ty9, ty44, k1]
  exact hdone _ (by decide)
 by_cases k2 : (k : Int) = 2
 ·simp (maxSteps := 2000000) (disch := first | omega | (simp only [AH.zN, AH.zP] <;> omega) | fail) only [amR Try.prog ro X, amS, seval, reduceCtorEq, ty3, ty5, ty9, ty44, k2]
  exact hdone _ (by decide)
 by_cases k3 : (k : Int) = 3
 ·simp (maxSteps := 2000000) (disch := first | omega | (simp only [AH.zN, AH.zP] <;> omega) | fail) only [amR Try.prog ro X, amS, seval, reduceCtorEq, ty3, ty5, ty9, ty44, k3]
  exact hdone _ (by decide)
 by_cases k4 : (k : Int) = 4
 ·simp (maxSteps := 2000000) (disch := first | omega | (simp only [AH.zN, AH.zP] <;> omega) | fail) only [amR Try.prog ro X, amS, seval, reduceCtorEq, ty3, ty5, ty9, ty44, k4]
  exact hdone _ (by decide)
 by_cases k5 : (k : Int) = 5
 ·simp (maxSteps := 2000000) (disch := first | omega | (simp only [AH.zN, AH.zP] <;> omega) | fail) only [amR Try.prog ro X, amS, seval, reduceCtorEq, ty3, ty5, ty9, ty44, k5]
  exact hdone _ (by decide)
 simp (maxSteps := 2000000) (disch := first | omega | (simp only [AH.zN, AH.zP] <;> omega) | fail) only [amR Try.prog ro X, amS, seval, reduceCtorEq, ty3, ty5, ty9, ty44, k0, k1, k2, k3, k4, k5]
 refine (pick_a A1 b (N + 1) hR1 (by omega) hro 5 (by omega)).mono ?_
 rintro r A2 ⟨n, rfl, hn, hR2, hX2⟩
 have hb2 := hR2.lt
 simp (maxSteps := 2000000) (disch := first | omega | (simp only [AH.zN, AH.zP] <;> omega) | fail) only [amR Try.prog ro X, amS, seval, reduceCtorEq, ty3, ty5, ty9, ty44]
 refine Wp.loopC (fun m e A' => e 0 = .pointer (some ⟨b, 0, none⟩) ∧ e 3 = .int .i64 n ∧ ExtX [b] A A' ∧ ∃ i : Nat, i ≤ n + 1 ∧ m = n + 1 - i ∧ e 5 = .int .i64 i ∧ RdV A' b (N + 2 + i) ∧ ∃ (s : Sl) (l : List UInt8), e 4 = s.v ∧ l.length = i ∧ Acc A2.size A' s l [] ∧ A2.size ≤ A'.size) (n + 1 - 0) ?_ ?_
 ·simp (maxSteps := 2000000) (disch := first | omega | (simp only [AH.zN, AH.zP] <;> omega) | fail) only [amV, amH, amQ, amL, amN Try.prog, amS, seval, reduceCtorEq, ty3, ty5, ty9, ty44]
  exact ⟨(hX1.trans hX2).new _, 0, by omega, by omega, rfl, (hR2.ext (Ext.new _ _)).mono (by omega), ⟨false, A2.size, 0, 0, 0⟩, [], rfl, rfl, .empty _ _, by omega⟩
 ·rintro m e A' ⟨h0, h3, hX, i, hi, rfl, h5, hR', s, l, h4, hli, hs, hz⟩
  simp (maxSteps := 2000000) (disch := first | omega | (simp only [AH.zN, AH.zP] <;> omega) | fail) only [amR Try.prog ro X, amS, seval, reduceCtorEq, ty3, ty5, ty9, ty44, h3, h5]
  refine CondB.split (fun h => ?_) (fun h => ?_)
  ·have hin : i < n + 1 := by simp at h; omega
   simp (maxSteps := 2000000) (disch := first | omega | (simp only [AH.zN, AH.zP] <;> omega) | fail) only [amR Try.prog ro X, amS, seval, reduceCtorEq, ty3, ty5, ty9, ty44, h0, h4]
   refine (pick_a A' b (N + 2 + i) hR' (by omega) hro 4 (by omega)).mono ?_
   rintro r A4 ⟨c, rfl, hc, hR4, hX4⟩
   have hz4 := hX4.size
   obtain ⟨x, hx⟩ : ∃ x : UInt8, x = UInt8.ofNat (97 + c) := ⟨_, rfl⟩
   have hw : (97 + (c : Int)) = (x.toNat : Int) := by rw [hx]; simp; omega
   obtain ⟨s', A5, hap, hs', hg, hz5, _⟩ := (extx_acc hs hX4 hb2).lit (P := Try.prog) (ro := ro) (t := 44) (n := 1) (vs := [.int .u8 (97 + (c : Int))]) (xs := [x]) (by omega) (by simp only [ty44]; rfl) rfl (Reps.one ⟨by rw [hw], rfl⟩) (.inr (by simp)) (by omega) (by omega)
   rw [show Dat.w UInt8 = 1 from rfl] at hap
   simp (maxSteps := 2000000) (disch := first | omega | (simp only [AH.zN, AH.zP] <;> omega) | fail) only [amR Try.prog ro X, amS, seval, reduceCtorEq, ty3, ty5, ty9, ty44, h0, h3, h4, h5, hap]
   exact ⟨n + 1 - (i + 1), by omega, grow_x hg A (hX1.trans hX2).size (hX.trans hX4), i + 1, by omega, rfl, rfl, (hR4.grow hg hb2).mono (by omega), s', l ++ [x], rfl, by simp [hli], hs', by omega⟩
  ·have hin : i = n + 1 := by simp at h; omega
   obtain ⟨F, hF, _⟩ := hs.slr
   simp (maxSteps := 2000000) (disch := first | omega | (simp only [AH.zN, AH.zP] <;> omega) | fail) only [amR Try.prog ro X, amS, seval, reduceCtorEq, ty3, ty5, ty9, ty44, h4, hF.toStr]
   exact ⟨_, rfl, by rw [bs_size]; omega, hR'.mono (by omega), hX⟩
end Go.Proofs.Ytaiagocjnnfkmaa.Amu.Draw1
