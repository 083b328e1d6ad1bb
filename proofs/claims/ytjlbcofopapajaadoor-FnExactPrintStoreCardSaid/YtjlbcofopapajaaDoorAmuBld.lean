import Derived.Test.YtjlbcofopapajaaDoorAmuTy
import Derived.Test.YtjlbcofopapajaaDoorAmRun
import Derived.Test.YtjlbcofopapajaaDoorAmBld
namespace Go.Proofs.YtjlbcofopapajaaDoor.Amu.Bld
open Go Go.AM Go.Proofs
set_option linter.all false
open Ty
variable {ro : Nat} {X : FuncId → List Value → AH → ARes → AH → Prop}
set_option maxRecDepth 10000
theorem write2_a (hXB : ∀ f args A r A', BldX 120 54 101 5 ro f args A r A' → X f args A r A') (A : AH) (lo b : Nat) (hro : ro ≤ lo) (hb : ro ≤ b) (hlo : lo ≤ A.size) (F : List Nat) (s t : ByteArray)
 (h : BldV 101 5 lo A b F s) (hlim : s.size + t.size < 4294967296) :
 ACalls Tryd.prog ro X 52 [.pointer (some ⟨b, 0, none⟩), .string t] A (fun r A' => ∃ F', r = .ret (.tuple #[.int .i64 t.size, .nilIface]) ∧ BldV 101 5 lo A' b F' (s ++ t) ∧ Wr b A F A' F') := by
 obtain ⟨h1, p, v, h2, h3, h4⟩ := h
 refine ACalls.enterQ (rs := [.tmp 4, .tmp 5]) Tryd.func52 rfl (by kernel_rfl) rfl ?_
 simp (maxSteps := 2000000) (disch := first | omega | (simp only [AH.zN, AH.zP] <;> omega) | fail) only [amR Tryd.prog ro X, amS, seval, reduceCtorEq, ty5, ty9, ty69, ty99, ty101]
 refine ⟨_, _, .ext (hXB _ _ _ _ _ (.check rfl rfl h2 h3 hb)), ?_⟩
 generalize hA1 : A.put b _ = A1
 have z1 : A1.size = A.size := by rw [← hA1]; rfl
 have g1 : A1.get b = .cells [.pointer (some ⟨b, 0, none⟩), v] (tagB 101) := by rw [← hA1]; exact AH.gPs _ _ _
 have o1 : ∀ x, x ≠ b → A1.get x = A.get x := fun x hx => by rw [← hA1]; exact AH.gPo hx
 clear hA1
 have hte : tElemSize Tryd.prog 69 = some 1 := by simp only [ty69]
 have htu : tElem Tryd.prog 69 = some 5 := by simp only [ty69]
 rcases h4 with ⟨rfl, rfl, rfl⟩ | ⟨g, rfl, k2, k3, k4, k5, rfl, k7⟩
 ·by_cases h0 : t = ⟨#[]⟩
  ·subst h0
   have hap := app_tag0 (P := Tryd.prog) (ro := ro) (A := A1) hte
   simp (maxSteps := 2000000) (disch := first | omega | (simp only [AH.zN, AH.zP] <;> omega) | fail) only [amR Tryd.prog ro X, amS, seval, reduceCtorEq, ty5, ty9, ty69, ty99, ty101, g1, hap]
   exact ⟨[], ⟨by show b < A1.size; omega, _, _, AH.gPs _ _ _, .inr rfl, .inl ⟨rfl, rfl, rfl⟩⟩, (by first | omega | (simp only [AH.zN, AH.zP] <;> omega)), fun x hx hxb _ => (AH.gPo hxb).trans (o1 x hxb), by simp⟩
  ·have h01 : 1 ≤ t.size := by
    rcases Nat.eq_zero_or_pos t.size with h | h
    ·exact absurd (ByteArray.ext (Array.eq_empty_of_size_eq_zero h)) h0
    ·exact h
   have hap := app_tagN (P := Tryd.prog) (ro := ro) (A := A1) hte htu h01 (by omega)
   simp (maxSteps := 2000000) (disch := first | omega | (simp only [AH.zN, AH.zP] <;> omega) | fail) only [amR Tryd.prog ro X, amS, seval, reduceCtorEq, ty5, ty9, ty69, ty99, ty101, g1, hap]
   have he : (⟨#[]⟩ : ByteArray) ++ t = t := by apply ByteArray.ext; simp
   refine ⟨[A1.size], ⟨(by first | omega | (simp only [AH.zN, AH.zP] <;> omega)), _, _, AH.gPs _ _ _, .inr rfl, .inr ⟨A1.size, by rw [he], ?_, by omega, (by first | omega | (simp only [AH.zN, AH.zP] <;> omega)), by omega, rfl, by rw [he]; exact h01⟩⟩, (by first | omega | (simp only [AH.zN, AH.zP] <;> omega)), fun x hx hxb _ => ?_, by simp; omega⟩
   ·rw [he, AH.gPo (by omega)]; exact AH.gNs _ _
   ·rw [AH.gPo hxb, AH.gNo (by omega)]; exact o1 x hxb
 ·have hap := app_tagS (P := Tryd.prog) (ro := ro) (A := A1) (s := t) hte htu ((o1 g k5).trans k2) (by omega) hlim
  simp (maxSteps := 2000000) (disch := first | omega | (simp only [AH.zN, AH.zP] <;> omega) | fail) only [amR Tryd.prog ro X, amS, seval, reduceCtorEq, ty5, ty9, ty69, ty99, ty101, g1, hap]
  have hs1 : (s ++ t).size = s.size + t.size := ByteArray.size_append
  refine ⟨[A1.size], ⟨(by first | omega | (simp only [AH.zN, AH.zP] <;> omega)), _, _, AH.gPs _ _ _, .inr rfl, .inr ⟨A1.size, rfl, ?_, by omega, (by first | omega | (simp only [AH.zN, AH.zP] <;> omega)), by omega, rfl, by omega⟩⟩, (by first | omega | (simp only [AH.zN, AH.zP] <;> omega)), fun x hx hxb hxg => ?_, by simp; omega⟩
  ·rw [AH.gPo (by omega)]; exact AH.gNs _ _
  ·rw [AH.gPo hxb, AH.gNo (by simp only [AH.zP]; omega), AH.gPo (by simpa using hxg)]; exact o1 x hxb
theorem len_a (A : AH) (lo b : Nat) (F : List Nat) (s : ByteArray) (h : BldV 101 5 lo A b F s) :
 ACalls Tryd.prog ro X 66 [.pointer (some ⟨b, 0, none⟩)] A (fun r A' => r = .ret (.int .i64 s.size) ∧ A' = A) := by
 obtain ⟨_, p, v, h2, h3, h4⟩ := h
 refine ACalls.enterQ (rs := [.tmp 2]) Tryd.func66 rfl (by kernel_rfl) rfl ?_
 rcases h4 with ⟨rfl, rfl, rfl⟩ | ⟨g, rfl, k2, k3, k4, k5, rfl, k7⟩
 ·simp (maxSteps := 2000000) (disch := first | omega | (simp only [AH.zN, AH.zP] <;> omega) | fail) only [amR Tryd.prog ro X, amS, seval, reduceCtorEq, ty5, ty69, ty99, ty101, h2]
  rfl
 ·simp (maxSteps := 2000000) (disch := first | omega | (simp only [AH.zN, AH.zP] <;> omega) | fail) only [amR Tryd.prog ro X, amS, seval, reduceCtorEq, ty5, ty69, ty99, ty101, h2]
theorem string_a (hXB : ∀ f args A r A', BldX 120 54 101 5 ro f args A r A' → X f args A r A') (A : AH) (lo b : Nat) (hro : ro ≤ lo) (F : List Nat) (s : ByteArray)
 (h : BldV 101 5 lo A b F s) (h1 : 1 ≤ s.size) (hlim : s.size < 4294967296) :
 ACalls Tryd.prog ro X 54 [.pointer (some ⟨b, 0, none⟩)] A (fun r A' => r = .ret (.string s) ∧ A'.size = A.size ∧ ∀ x, x ∉ F → A'.get x = A.get x) := by
 obtain ⟨_, p, v, h2, h3, h4⟩ := h
 rcases h4 with ⟨rfl, _⟩ | ⟨g, rfl, k2, k3, k4, k5, rfl, k7⟩
 ·exact absurd h1 (by decide)
 ·exact ⟨_, _, .ext (hXB _ _ _ _ _ (.str rfl rfl h2 k2 h1 hlim (show ro ≤ g by omega))), rfl, rfl, fun x hx => AH.gPo (by simpa using hx)⟩
end Go.Proofs.YtjlbcofopapajaaDoor.Amu.Bld
