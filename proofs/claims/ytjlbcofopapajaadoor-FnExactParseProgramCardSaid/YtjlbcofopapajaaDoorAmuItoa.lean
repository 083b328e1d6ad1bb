import Derived.Test.YtjlbcofopapajaaDoorAmuTy
import Derived.Test.YtjlbcofopapajaaDoorAmRun
import Derived.Test.YtjlbcofopapajaaDoorProg
namespace Go.Proofs.YtjlbcofopapajaaDoor.Amu.Itoa
open Go Go.AM Go.Proofs
set_option linter.all false
open Ty
variable {ro : Nat} {X : FuncId → List Value → AH → ARes → AH → Prop}
set_option maxRecDepth 20000
theorem small_a (A : AH) (n : Nat) (hn : n < 100) : ACalls Tryd.prog ro X 220 [.int .i64 n] A (fun r A' => r = .ret (.string (decS n)) ∧ A' = A) := by
 refine ACalls.enterQ (rs := [.tmp 2]) Tryd.func220 rfl (by kernel_rfl) rfl ?_
 generalize hd : (ByteArray.mk (#[48, 49, 50, 51, 52, 53, 54, 55, 56, 57, 97, 98, 99, 100, 101, 102, 103, 104, 105, 106, 107, 108, 109, 110, 111, 112, 113, 114, 115, 116, 117, 118, 119, 120, 121, 122])) = dg
 generalize hs : (ByteArray.mk ((_ ++ _ : List UInt8).toArray)) = sm
 have hd' : dg = dgL := by rw [← hd]; rfl
 have hs' : sm = smL := by rw [← hs]; rfl
 have hsz : sm.size = 200 := by rw [hs']; rfl
 have hdz : dg.size = 36 := by rw [hd']; rfl
 by_cases h : (n : Int) < 10
 ·simp (disch := first | omega | fail) only [amR Tryd.prog ro X, amS, seval, reduceCtorEq, ty3, ty9, h, hdz]
  rw [hd', decS_lt (by omega), ← dgL_all n (by omega)]
  congr 3
 ·have e1 : ((n : Int) * 2).toNat = 2 * n := by omega
  have e2 : ((n : Int) * 2 + 2).toNat = 2 * n + 2 := by omega
  simp (disch := first | omega | fail) only [amR Tryd.prog ro X, amS, seval, reduceCtorEq, ty3, ty9, h, hsz, e1, e2]
  rw [hs', dec2 (by omega) hn, ← (smL_all n hn).2.2]
theorem len64_a (A : AH) (n : Nat) (hn : n < 65536) : ACalls Tryd.prog ro X 192 [.int .u64 n] A (fun r A' => A' = A ∧ ∃ L : Nat, r = .ret (.int .i64 L) ∧ L ≤ 16 ∧ n < 2 ^ L ∧ (0 < n → 2 ^ (L - 1) ≤ n)) := by
 refine ACalls.enterQ (rs := [.tmp 2]) Tryd.func192 rfl (by kernel_rfl) rfl ?_
 generalize hs : (ByteArray.mk ((_ ++ _ : List UInt8).toArray)) = tb
 have hsz : tb.size = 256 := by rw [← hs]; rfl
 have htb : ∀ k, k < 256 → (bget tb k).toNat ≤ 8 ∧ k < 2 ^ (bget tb k).toNat ∧ (0 < k → 2 ^ ((bget tb k).toNat - 1) ≤ k) := by
  rw [← hs]; decide
 clear hs
 have h32 : ¬ (4294967296 : Int) ≤ n := by omega
 have h16 : ¬ (65536 : Int) ≤ n := by omega
 have hk : ∀ k : Nat, k < 256 → IntKind.i64.wrap ((bget tb k).toNat : Int) = (bget tb k).toNat := fun k hk => IntWalk.i64_in _ (by have := (htb k hk).1; omega)
 have hq : (n : Int).fdiv (2 ^ min 8 IntKind.u64.bits) = ((n / 256 : Nat) : Int) := by
  have e : (2 ^ min 8 IntKind.u64.bits : Int) = 256 := rfl
  rw [e, Int.fdiv_eq_ediv_of_nonneg _ (by decide)]
  rfl
 by_cases h : (256 : Int) ≤ n
 ·have hw : IntKind.u8.wrap ((n / 256 : Nat) : Int) = ((n / 256 : Nat) : Int) := by rw [wrap_u8]; omega
  have hb := htb (n / 256) (by omega)
  have hk1 := hk (n / 256) (by omega)
  have hk2 : IntKind.i64.wrap (8 + ((bget tb (n / 256)).toNat : Int)) = ((8 + (bget tb (n / 256)).toNat : Nat) : Int) := by rw [IntWalk.i64_in _ (by omega)]; rfl
  simp (disch := first | omega | fail) only [amR Tryd.prog ro X, amS, seval, reduceCtorEq, ty3, ty5, ty9, ty254, h, h32, h16, hsz, hq, hw, hk1, hk2]
  refine ⟨8 + (bget tb (n / 256)).toNat, rfl, by omega, ?_, fun _ => ?_⟩
  ·rw [Nat.pow_add]; have := hb.2.1; omega
  ·have h3 := hb.2.2 (by omega)
   have h4 : 1 ≤ (bget tb (n / 256)).toNat := by
    rcases Nat.eq_zero_or_pos (bget tb (n / 256)).toNat with e | e
    ·have := hb.2.1; rw [e] at this; omega
    ·exact e
   have e : 8 + (bget tb (n / 256)).toNat - 1 = 8 + ((bget tb (n / 256)).toNat - 1) := by omega
   rw [e, Nat.pow_add]
   omega
 ·have hw : IntKind.u8.wrap (n : Int) = (n : Int) := by rw [wrap_u8]; omega
  have hb := htb n (by omega)
  have hk1 := hk n (by omega)
  simp (disch := first | omega | fail) only [amR Tryd.prog ro X, amS, seval, reduceCtorEq, ty3, ty5, ty9, ty254, h, h32, h16, hsz, hw, hk1]
  exact ⟨(bget tb n).toNat, rfl, by omega, hb.2.1, hb.2.2⟩
theorem log10_a (A : AH) (L : Nat) (hL : L ≤ 16) : ACalls Tryd.prog ro X 243 [.int .i64 L] A (fun r A' => r = .ret (.int .i64 (L * 78913 / 262144 : Nat)) ∧ A' = A) := by
 refine ACalls.enterQ (rs := [.tmp 2]) Tryd.func243 rfl (by kernel_rfl) rfl ?_
 have hq : ((L : Int) * 78913).fdiv (2 ^ min 18 IntKind.i64.bits) = ((L * 78913 / 262144 : Nat) : Int) := by
  have e : (2 ^ min 18 IntKind.i64.bits : Int) = 262144 := rfl
  rw [e, Int.fdiv_eq_ediv_of_nonneg _ (by decide)]
  omega
 simp (disch := first | omega | fail) only [amR Tryd.prog ro X, amS, seval, reduceCtorEq, ty3, hq]
theorem bool2_a (A : AH) (b : Bool) : ACalls Tryd.prog ro X 244 [.bool b] A (fun r A' => r = .ret (.int .i64 (if b then 1 else 0)) ∧ A' = A) := by
 refine ACalls.enterQ (rs := [.tmp 2]) Tryd.func244 rfl (by kernel_rfl) rfl ?_
 cases b
 ·simp (disch := first | omega | fail) only [amR Tryd.prog ro X, amS, seval, reduceCtorEq]
 ·simp (disch := first | omega | fail) only [amR Tryd.prog ro X, amS, seval, reduceCtorEq]
theorem numDigits_a (A : AH) (hP : Pow 1 A) (n : Nat) (h1 : 100 ≤ n) (h2 : n < 10000) : ACalls Tryd.prog ro X 221 [.int .u64 n] A (fun r A' => r = .ret (.int .i64 (if n < 1000 then 3 else 4)) ∧ A' = A) := by
 refine ACalls.enterQ (rs := [.tmp 2]) Tryd.func221 rfl (by kernel_rfl) rfl ?_
 obtain ⟨c, e, g1, g2, g3, g4⟩ := hP
 simp (disch := first | omega | fail) only [amR Tryd.prog ro X, amS, seval, reduceCtorEq, ty3, ty254, ty304]
 refine (len64_a _ n (by omega)).mono ?_
 rintro r A1 ⟨rfl, L, rfl, hL, hl1, hl2⟩
 simp (disch := first | omega | fail) only [amR Tryd.prog ro X, amS, seval, reduceCtorEq, ty3, ty254, ty304]
 refine (log10_a _ L hL).mono ?_
 rintro r A2 ⟨rfl, rfl⟩
 have hl2 := hl2 (by omega)
 have hk : (L * 78913 / 262144 = 2 ∧ n < 1000) ∨ (L * 78913 / 262144 = 3 ∧ (512 ≤ n)) ∨ (L * 78913 / 262144 = 4 ∧ 1000 ≤ n) := by
  have hLr : L = 0 ∨ L = 1 ∨ L = 2 ∨ L = 3 ∨ L = 4 ∨ L = 5 ∨ L = 6 ∨ L = 7 ∨ L = 8 ∨ L = 9 ∨ L = 10 ∨ L = 11 ∨ L = 12 ∨ L = 13 ∨ L = 14 ∨ L = 15 ∨ L = 16 := by omega
  rcases hLr with rfl | rfl | rfl | rfl | rfl | rfl | rfl | rfl | rfl | rfl | rfl | rfl | rfl | rfl | rfl | rfl | rfl <;> (simp at hl1 hl2; omega)
 have p2 := g4 2 (by decide)
 have p3 := g4 3 (by decide)
 have p4 := g4 4 (by decide)
 rcases hk with ⟨e1, hn⟩ | ⟨e1, hn⟩ | ⟨e1, hn⟩
 ·rw [e1]
  have hge : (100 : Int) ≤ n := by omega
  simp (disch := first | omega | fail) only [amR Tryd.prog ro X, amS, seval, reduceCtorEq, ty3, ty254, ty304, arrAddr, g1, p2, hge]
  refine (bool2_a _ true).mono ?_
  rintro r A3 ⟨rfl, rfl⟩
  rw [if_pos hn]
  simp (disch := first | omega | fail) only [amR Tryd.prog ro X, amS, seval, reduceCtorEq, ty3, ty254, ty304]
 ·rw [e1]
  by_cases hlt : n < 1000
  ·have hge : ¬ (1000 : Int) ≤ n := by omega
   simp (disch := first | omega | fail) only [amR Tryd.prog ro X, amS, seval, reduceCtorEq, ty3, ty254, ty304, arrAddr, g1, p3, hge]
   refine (bool2_a _ false).mono ?_
   rintro r A3 ⟨rfl, rfl⟩
   rw [if_pos hlt]
   simp (disch := first | omega | fail) only [amR Tryd.prog ro X, amS, seval, reduceCtorEq, ty3, ty254, ty304]
  ·have hge : (1000 : Int) ≤ n := by omega
   simp (disch := first | omega | fail) only [amR Tryd.prog ro X, amS, seval, reduceCtorEq, ty3, ty254, ty304, arrAddr, g1, p3, hge]
   refine (bool2_a _ true).mono ?_
   rintro r A3 ⟨rfl, rfl⟩
   rw [if_neg hlt]
   simp (disch := first | omega | fail) only [amR Tryd.prog ro X, amS, seval, reduceCtorEq, ty3, ty254, ty304]
 ·rw [e1]
  have hge : ¬ (10000 : Int) ≤ n := by omega
  simp (disch := first | omega | fail) only [amR Tryd.prog ro X, amS, seval, reduceCtorEq, ty3, ty254, ty304, arrAddr, g1, p4, hge]
  refine (bool2_a _ false).mono ?_
  rintro r A3 ⟨rfl, rfl⟩
  rw [if_neg (by omega)]
  simp (disch := first | omega | fail) only [amR Tryd.prog ro X, amS, seval, reduceCtorEq, ty3, ty254, ty304]
theorem w32 (x : Int) (h : 0 ≤ x ∧ x ≤ 4294967295) : IntKind.u32.wrap x = x := by
 have : IntKind.u32.wrap x = x % 4294967296 := rfl
 omega
theorem td (m n : Nat) : ((m : Int)).tdiv (n : Int) = ((m / n : Nat) : Int) := rfl
theorem tm (m n : Nat) : ((m : Int)).tmod (n : Int) = ((m % n : Nat) : Int) := rfl
def dg (sm : ByteArray) (i : Nat) : Value := .int .u8 (bget sm i).toNat
theorem format4_a (A : AH) (b : Nat) (hb : b < A.size) (hrb : ro ≤ b) (o cap : Nat) (c : List Value) (e : Nat) (g : A.get b = .cells c e) (hl : o + 4 ≤ c.length) (n : Nat) (hn : n < 10000) :
 ACalls Tryd.prog ro X 222 [(Sl.mk false b o 4 cap).v, .int .u64 n] A (fun r A' => ∃ v, r = .ret v ∧ A'.size = A.size ∧ (∀ x, x ≠ b → A'.get x = A.get x) ∧ ∃ c', A'.get b = .cells c' e ∧ c'.length = c.length ∧ c'[o]? = some (dg smL (2 * (n / 100))) ∧ c'[o + 1]? = some (dg smL (2 * (n / 100) + 1)) ∧ c'[o + 2]? = some (dg smL (2 * (n % 100))) ∧ c'[o + 3]? = some (dg smL (2 * (n % 100) + 1))) := by
 refine ACalls.enterQ (rs := []) Tryd.func222 rfl (by kernel_rfl) rfl ?_
 generalize hs : (ByteArray.mk ((_ ++ _ : List UInt8).toArray)) = sm
 have hs' : sm = smL := by rw [← hs]; rfl
 have hsz : sm.size = 200 := by rw [hs']; rfl
 clear hs
 have q1 : (n : Int).tmod 10000 = (n : Int) := by have := tm n 10000; rw [Nat.mod_eq_of_lt hn] at this; exact this
 have q2 : (n : Int).tdiv 10000 = 0 := by have := td n 10000; rw [Nat.div_eq_of_lt hn] at this; exact this
 have q3 : (n : Int).tdiv 100 = ((n / 100 : Nat) : Int) := td n 100
 have q4 : (n : Int).tmod 100 = ((n % 100 : Nat) : Int) := tm n 100
 have h3 : n % 100 < 100 := Nat.mod_lt _ (by decide)
 have h4 : n / 100 < 100 := by omega
 simp (disch := first | omega | fail) only [amR Tryd.prog ro X, amS, seval, reduceCtorEq, ty3, ty5, ty9, ty69, ty254, ty263]
 refine Wp.loopC (fun k e A' => A' = A ∧ e 0 = (Sl.mk false b o 4 cap).v ∧ e 1 = .int .u64 n ∧ e 4 = .int .i64 4) 0 ?_ ?_
 ·simp (disch := first | omega | fail) only [amV, amH, amQ, amL, amN Tryd.prog, amS, seval, reduceCtorEq, ty3, ty5, ty9, ty69, ty254, ty263]
 ·rintro k e' A' ⟨rfl, e0, e1, e4⟩
  simp (disch := first | omega | fail) only [amR Tryd.prog ro X, amS, seval, reduceCtorEq, ty3, ty5, ty9, ty69, ty254, ty263, e0, e1, e4, q1, q2, q3, q4, w32, hsz]
  refine WpH (A'.size) [] (by kernel_rfl) (.inl (by kernel_rfl)) ?_
  simp (disch := first | omega | fail) only [amX2 Tryd.prog ro X, amX Tryd.prog ro X, amR Tryd.prog ro X, amS, seval, reduceCtorEq, ty3, ty5, ty9, ty69, ty254, ty263, e0, e1, e4, q1, q2, q3, q4, w32, hsz, g]
  refine WpH (A'.size) [] (by kernel_rfl) (.inl (by kernel_rfl)) ?_
  simp (disch := first | omega | fail) only [amX2 Tryd.prog ro X, amX Tryd.prog ro X, amR Tryd.prog ro X, amS, seval, reduceCtorEq, ty3, ty5, ty9, ty69, ty254, ty263, e0, e1, e4, q1, q2, q3, q4, w32, hsz, g]
  have u1 : ((n : Int) % 10000 % 100 * 2 + 1).toNat = 2 * (n % 100) + 1 := by omega
  have u2 : ((n : Int) % 10000 % 100 * 2).toNat = 2 * (n % 100) := by omega
  have u3 : ((n : Int) % 10000 / 100 * 2 + 1).toNat = 2 * (n / 100) + 1 := by omega
  have u4 : ((n : Int) % 10000 / 100 * 2).toNat = 2 * (n / 100) := by omega
  rw [u1, u2, u3, u4, hs']
  refine ⟨_, rfl, fun x hx => ?_, _, rfl, by simp only [List.length_set], ?_, ?_, ?_, ?_⟩
  ·rw [AH.gPo hx, AH.gPo hx, AH.gPo hx, AH.gPo hx]
  ·exact set_hit (by simp only [List.length_set]; omega)
  ·rw [set_miss (by omega)]
   exact set_hit (by simp only [List.length_set]; omega)
  ·rw [set_miss (by omega), set_miss (by omega)]
   exact set_hit (by simp only [List.length_set]; omega)
  ·rw [set_miss (by omega), set_miss (by omega), set_miss (by omega)]
   exact set_hit (by omega)
theorem format3_a (A : AH) (b : Nat) (hb : b < A.size) (hrb : ro ≤ b) (o cap : Nat) (c : List Value) (e : Nat) (g : A.get b = .cells c e) (hl : o + 3 ≤ c.length) (n : Nat) (hn : n < 1000) :
 ACalls Tryd.prog ro X 222 [(Sl.mk false b o 3 cap).v, .int .u64 n] A (fun r A' => ∃ v, r = .ret v ∧ A'.size = A.size ∧ (∀ x, x ≠ b → A'.get x = A.get x) ∧ ∃ c', A'.get b = .cells c' e ∧ c'.length = c.length ∧ c'[o]? = some (.int .u8 (48 + n / 100 : Nat)) ∧ c'[o + 1]? = some (dg smL (2 * (n % 100))) ∧ c'[o + 2]? = some (dg smL (2 * (n % 100) + 1))) := by
 refine ACalls.enterQ (rs := []) Tryd.func222 rfl (by kernel_rfl) rfl ?_
 generalize hs : (ByteArray.mk ((_ ++ _ : List UInt8).toArray)) = sm
 have hs' : sm = smL := by rw [← hs]; rfl
 have hsz : sm.size = 200 := by rw [hs']; rfl
 clear hs
 simp (disch := first | omega | fail) only [amR Tryd.prog ro X, amS, seval, reduceCtorEq, ty3, ty5, ty9, ty69, ty254, ty263]
 refine Wp.loopC (fun k e A' => A' = A ∧ e 0 = (Sl.mk false b o 3 cap).v ∧ e 1 = .int .u64 n ∧ e 4 = .int .i64 3) 0 ?_ ?_
 ·simp (disch := first | omega | fail) only [amV, amH, amQ, amL, amN Tryd.prog, amS, seval, reduceCtorEq, ty3, ty5, ty9, ty69, ty254, ty263]
 ·rintro k e' A' ⟨rfl, e0, e1, e4⟩
  simp (disch := first | omega | fail) only [amR Tryd.prog ro X, amS, seval, reduceCtorEq, ty3, ty5, ty9, ty69, ty254, ty263, e0, e1, e4, w32, hsz]
  refine WpH (A'.size) [] (by kernel_rfl) (.inl (by kernel_rfl)) ?_
  simp (disch := first | omega | fail) only [amX2 Tryd.prog ro X, amX Tryd.prog ro X, amR Tryd.prog ro X, amS, seval, reduceCtorEq, ty3, ty5, ty9, ty69, ty254, ty263, e0, e1, e4, w32, hsz, g]
  have u1 : ((n : Int) % 100 * 2 + 1).toNat = 2 * (n % 100) + 1 := by omega
  have u2 : ((n : Int) % 100 * 2).toNat = 2 * (n % 100) := by omega
  rw [u1, u2, hs']
  refine ⟨_, rfl, fun x hx => ?_, _, rfl, by simp only [List.length_set], ?_, ?_, ?_⟩
  ·rw [AH.gPo hx, AH.gPo hx, AH.gPo hx]
  ·exact set_hit (by simp only [List.length_set]; omega)
  ·rw [set_miss (by omega)]
   exact set_hit (by simp only [List.length_set]; omega)
  ·rw [set_miss (by omega), set_miss (by omega)]
   exact set_hit (by omega)
theorem aRowLit {A : AH} {b o n e : Nat} {c vs : List Value} (g : A.get b = .cells c e) (hv : vs.length = n) (hl : o + n ≤ c.length) (h : ∀ j, j < n → c[o + j]? = vs[j]?) : rowK o n (A.get b) = some vs := by
 rw [g]
 show (if o + n ≤ c.length then some ((c.drop o).take n) else none) = some vs
 rw [if_pos hl, row_of hv hl h]
theorem dgv {k : Nat} (h : k < 100) : dg smL (2 * k) = .int .u8 (UInt8.ofNat (48 + k / 10)).toNat ∧ dg smL (2 * k + 1) = .int .u8 (UInt8.ofNat (48 + k % 10)).toNat := by
 have := smL_all k h
 unfold dg
 rw [this.1, this.2.1]
 exact ⟨rfl, rfl⟩
theorem formatInt_a (A : AH) (hro : ro ≤ A.size) (hP : Pow 1 A) (n : Nat) (hn : n < 10000) : ACalls Tryd.prog ro X 180 [.int .i64 n, .int .i64 10] A (fun r A' => r = .ret (.string (decS n)) ∧ Ext A A') := by
 refine ACalls.enterQ (rs := [.tmp 4]) Tryd.func180 rfl (by kernel_rfl) rfl ?_
 have h0 : (0 : Int) ≤ n := by omega
 have h0' : ¬ (n : Int) < 0 := by omega
 by_cases h1 : (n : Int) < 100
 ·simp (disch := first | omega | fail) only [amR Tryd.prog ro X, amS, seval, reduceCtorEq, ty2, ty3, ty5, ty9, ty69, ty254, ty284, h0, h1]
  refine (small_a _ n (by omega)).mono ?_
  rintro r A1 ⟨rfl, rfl⟩
  simp (disch := first | omega | fail) only [amR Tryd.prog ro X, amS, seval, reduceCtorEq, ty2, ty3, ty5, ty9, ty69, ty254, ty284]
  exact Ext.refl _
 ·have hw : IntKind.u64.wrap (n : Int) = n := by
   have : IntKind.u64.wrap (n : Int) = (n : Int) % 18446744073709551616 := rfl
   omega
  simp (disch := first | omega | fail) only [amR Tryd.prog ro X, amS, seval, reduceCtorEq, ty2, ty3, ty5, ty9, ty69, ty254, ty284, h0, h0', h1, hw]
  generalize hB : A.new _ = B
  have hEB : Ext A B := by rw [← hB]; exact Ext.new _ _
  have zB : B.size = A.size + 1 := by rw [← hB]; rfl
  have gB : ∃ c, B.get A.size = .cells c 24 ∧ c.length = 24 := by rw [← hB]; exact ⟨_, AH.gNs _ _, rfl⟩
  obtain ⟨c, gB, hcl⟩ := gB
  refine (numDigits_a _ (hP.ext hEB) n (by omega) hn).mono ?_
  rintro r A1 ⟨rfl, rfl⟩
  by_cases h2 : n < 1000
  ·rw [if_pos h2]
   have hsl : ∀ H, aSlice Tryd.prog H 284 (.pointer (some ⟨A.size, 0, none⟩)) (some (.int .i64 1)) (some (.int .i64 4)) none = some (Sl.mk false A.size 1 3 23).v := fun H => by
    simp only [aSlice_arr, ty284]
    unfold arrSl arrSl2
    simp [aBound, BIG]
   simp (disch := first | omega | fail) only [amR Tryd.prog ro X, amS, seval, reduceCtorEq, ty2, ty3, ty5, ty9, ty69, ty254, ty284, hsl, h0']
   refine (format3_a _ A.size (by omega) (by omega) 1 23 c 24 gB (by omega) n h2).mono ?_
   rintro r B2 ⟨v, rfl, z2, k2, c', g2, l2, d1, d2, d3⟩
   have hm : n % 100 < 100 := Nat.mod_lt _ (by decide)
   have hrow : rowK 1 3 (B2.get A.size) = some ([UInt8.ofNat (48 + n / 100), UInt8.ofNat (48 + n % 100 / 10), UInt8.ofNat (48 + n % 100 % 10)].map bv) := aRowLit g2 rfl (by omega) (fun j hj => by
    have hj' : j = 0 ∨ j = 1 ∨ j = 2 := by omega
    have e1 : (UInt8.ofNat (48 + n / 100)).toNat = 48 + n / 100 := by rw [UInt8.toNat_ofNat']; omega
    rcases hj' with rfl | rfl | rfl
    ·rw [d1]; show _ = some (Value.int .u8 (UInt8.ofNat (48 + n / 100)).toNat); rw [e1]
    ·rw [d2, (dgv hm).1]; rfl
    ·rw [d3, (dgv hm).2]; rfl)
   have hE2 : Ext A B2 := ⟨by omega, fun x hx => (k2 x (by omega)).trans (hEB.get x hx)⟩
   simp (disch := first | omega | fail) only [amR Tryd.prog ro X, amS, seval, reduceCtorEq, ty2, ty3, ty5, ty9, ty69, ty254, ty284, hsl, h0', hrow, strOf_bv]
   refine ⟨trivial, ?_⟩
   simp (disch := first | omega | fail) only [amR Tryd.prog ro X, amS, seval, reduceCtorEq, ty2, ty3, ty5, ty9, ty69, ty254, ty284]
   refine ⟨?_, hE2⟩
   rw [dec3 (by omega) h2, show n % 100 / 10 = n / 10 % 10 by omega, show n % 100 % 10 = n % 10 by omega]
   simp only [UInt8.ofNat_toNat]
  ·rw [if_neg h2]
   have hsl : ∀ H, aSlice Tryd.prog H 284 (.pointer (some ⟨A.size, 0, none⟩)) (some (.int .i64 1)) (some (.int .i64 5)) none = some (Sl.mk false A.size 1 4 23).v := fun H => by
    simp only [aSlice_arr, ty284]
    unfold arrSl arrSl2
    simp [aBound, BIG]
   simp (disch := first | omega | fail) only [amR Tryd.prog ro X, amS, seval, reduceCtorEq, ty2, ty3, ty5, ty9, ty69, ty254, ty284, hsl, h0']
   refine (format4_a _ A.size (by omega) (by omega) 1 23 c 24 gB (by omega) n hn).mono ?_
   rintro r B2 ⟨v, rfl, z2, k2, c', g2, l2, d1, d2, d3, d4⟩
   have hm : n % 100 < 100 := Nat.mod_lt _ (by decide)
   have hm2 : n / 100 < 100 := by omega
   have hrow : rowK 1 4 (B2.get A.size) = some ([UInt8.ofNat (48 + n / 100 / 10), UInt8.ofNat (48 + n / 100 % 10), UInt8.ofNat (48 + n % 100 / 10), UInt8.ofNat (48 + n % 100 % 10)].map bv) := aRowLit g2 rfl (by omega) (fun j hj => by
    have hj' : j = 0 ∨ j = 1 ∨ j = 2 ∨ j = 3 := by omega
    rcases hj' with rfl | rfl | rfl | rfl
    ·rw [d1, (dgv hm2).1]; rfl
    ·rw [d2, (dgv hm2).2]; rfl
    ·rw [d3, (dgv hm).1]; rfl
    ·rw [d4, (dgv hm).2]; rfl)
   have hE2 : Ext A B2 := ⟨by omega, fun x hx => (k2 x (by omega)).trans (hEB.get x hx)⟩
   simp (disch := first | omega | fail) only [amR Tryd.prog ro X, amS, seval, reduceCtorEq, ty2, ty3, ty5, ty9, ty69, ty254, ty284, hsl, h0', hrow, strOf_bv]
   refine ⟨trivial, ?_⟩
   simp (disch := first | omega | fail) only [amR Tryd.prog ro X, amS, seval, reduceCtorEq, ty2, ty3, ty5, ty9, ty69, ty254, ty284]
   refine ⟨?_, hE2⟩
   rw [dec4 (by omega) hn, show n % 100 / 10 = n / 10 % 10 by omega, show n % 100 % 10 = n % 10 by omega, show n / 100 / 10 = n / 1000 by omega]
   simp only [UInt8.ofNat_toNat]
theorem inner_a (A : AH) (hro : ro ≤ A.size) (hP : Pow 1 A) (n : Nat) (hn : n < 10000) : ACalls Tryd.prog ro X 131 [.int .i64 n] A (fun r A' => r = .ret (.string (decS n)) ∧ Ext A A') := by
 refine ACalls.enterQ (rs := [.tmp 2]) Tryd.func131 rfl (by kernel_rfl) rfl ?_
 simp (disch := first | omega | fail) only [amR Tryd.prog ro X, amS, seval, reduceCtorEq]
 refine (formatInt_a _ hro hP n hn).mono ?_
 rintro r A1 ⟨rfl, hE⟩
 simp (disch := first | omega | fail) only [amR Tryd.prog ro X, amS, seval, reduceCtorEq]
 exact hE
theorem Itoa_a (A : AH) (hro : ro ≤ A.size) (hP : Pow 1 A) (n : Nat) (hn : n < 10000) : ACalls Tryd.prog ro X 63 [.int .i64 n] A (fun r A' => r = .ret (.string (decS n)) ∧ Ext A A') := by
 refine ACalls.enterQ (rs := [.tmp 2]) Tryd.func63 rfl (by kernel_rfl) rfl ?_
 simp (disch := first | omega | fail) only [amR Tryd.prog ro X, amS, seval, reduceCtorEq]
 refine (inner_a _ hro hP n hn).mono ?_
 rintro r A1 ⟨rfl, hE⟩
 simp (disch := first | omega | fail) only [amR Tryd.prog ro X, amS, seval, reduceCtorEq]
 exact hE
end Go.Proofs.YtjlbcofopapajaaDoor.Amu.Itoa
