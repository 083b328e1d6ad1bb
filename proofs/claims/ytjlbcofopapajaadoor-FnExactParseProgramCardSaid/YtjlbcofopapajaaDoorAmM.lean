import Derived.Test.YtjlbcofopapajaaDoorAmSA
import Derived.Test.YtjlbcofopapajaaDoorAmSD
import Derived.WideShapes
import Derived.ChangeShapes
import Derived.Handed
import Derived.MakeChecks
import Derived.OpenShut
import Derived.ProofKit
namespace Go.AM
open Go
set_option linter.all false
structure Grow (lo b : Nat) (A A' : AH) : Prop where
 size : A.size ≤ A'.size
 get : ∀ x, x < A.size → x < lo ∨ x ≠ b → A'.get x = A.get x
theorem Grow.ext {A0 A A' : AH} {lo b : Nat} (h : Grow lo b A A') (hE : Ext A0 A) (hl : A0.size ≤ lo) : Ext A0 A' :=
 ⟨Nat.le_trans hE.size h.size, fun x hx => (h.get x (Nat.lt_of_lt_of_le hx hE.size) (.inl (Nat.lt_of_lt_of_le hx hl))).trans (hE.get x hx)⟩
theorem Ext.grow {A A' : AH} (h : Ext A A') (lo b : Nat) : Grow lo b A A' := ⟨h.size, fun x hx _ => h.get x hx⟩
inductive Acc {α : Type} [Dat α] (lo : Nat) (A : AH) : Sl → List α → List Nat → Prop
 | nil : Acc lo A .nil [] []
 | empty (b o : Nat) : Acc lo A ⟨false, b, o, 0, 0⟩ [] []
 | own {b n c : Nat} {cs : List Value} {l : List α} {G : List Nat} (h1 : lo ≤ b) (h2 : b < A.size) (h3 : b ∉ G) (h4 : n = l.length) (h5 : c = BIG ∨ (c = n ∧ n < BIG)) (h6 : A.get b = .cells cs (Dat.w α)) (h7 : Reps A l cs G) : Acc lo A ⟨false, b, 0, n, c⟩ l G
section
variable {α : Type} [Dat α] {lo : Nat} {A A' : AH} {s : Sl} {l : List α} {G : List Nat}
theorem Acc.frame (h : Acc lo A s l G) (hz : A.size ≤ A'.size) (hg : ∀ x, x < A.size → (s.nl = false ∧ lo ≤ x ∧ x = s.b) ∨ x ∈ G → A'.get x = A.get x) : Acc lo A' s l G := by
 cases h with
 | nil => exact .nil
 | empty b o => exact .empty b o
 | own h1 h2 h3 h4 h5 h6 h7 =>
   exact .own h1 (by omega) h3 h4 h5 ((hg _ h2 (.inl ⟨rfl, h1, rfl⟩)).trans h6) (h7.frame fun x hx => ⟨hg x (h7.bound x hx) (.inr hx), by have := h7.bound x hx; omega⟩)
theorem Acc.ext (h : Acc lo A s l G) (hE : Ext A A') : Acc lo A' s l G := h.frame hE.size fun x hx _ => hE.get x hx
theorem Acc.bound (h : Acc lo A s l G) : ∀ x, x ∈ G → x < A.size := by
 cases h with
 | nil => simp
 | empty => simp
 | own h1 h2 h3 h4 h5 h6 h7 => exact h7.bound
theorem Acc.len (h : Acc lo A s l G) : s.len = l.length := by
 cases h with
 | nil => rfl
 | empty => rfl
 | own h1 h2 h3 h4 h5 h6 h7 => exact h4
theorem Acc.foot (h : Acc lo A s l G) (hf : ∀ x ∈ G, lo ≤ x) (hn : G.Nodup) : ∃ F, SlR A s l F ∧ F.Nodup ∧ (∀ x ∈ F, lo ≤ x) ∧ ∀ x ∈ F, (s.nl = false ∧ x = s.b) ∨ x ∈ G := by
 cases h with
 | nil => exact ⟨[], .nil rfl rfl rfl, by simp, by simp, by simp⟩
 | empty b o => exact ⟨[], .empty rfl rfl (by show 0 < BIG; unfold BIG; omega) rfl rfl, by simp, by simp, by simp⟩
 | own h1 h2 h3 h4 h5 h6 h7 =>
   refine ⟨_ :: G, .inB ⟨rfl, h2, h4, ?_, _, _, G, h6, ?_, rfl, ?_, rfl⟩, List.nodup_cons.2 ⟨h3, hn⟩, ?_, ?_⟩
   ·rcases h5 with h5 | h5
    ·exact .inl h5
    ·exact .inr ⟨by simp [h5.1], by simpa [h5.1] using h5.2⟩
   ·have := h7.length; simp only [Nat.zero_add, h4, this]; exact Nat.le_refl _
   ·have := h7.length; simp only [List.drop_zero, h4, ← this]; rw [List.take_of_length_le (Nat.le_refl _)]; exact h7
   ·intro x hx; rcases List.mem_cons.1 hx with rfl | hx; exact h1; exact hf x hx
   ·intro x hx; rcases List.mem_cons.1 hx with rfl | hx; exact .inl ⟨rfl, rfl⟩; exact .inr hx
theorem Acc.slr (h : Acc lo A s l G) : ∃ F, SlR A s l F ∧ ∀ x ∈ F, (s.nl = false ∧ lo ≤ x ∧ x = s.b) ∨ x ∈ G := by
 cases h with
 | nil => exact ⟨[], .nil rfl rfl rfl, by simp⟩
 | empty b o => exact ⟨[], .empty rfl rfl (by show 0 < BIG; unfold BIG; omega) rfl rfl, by simp⟩
 | own h1 h2 h3 h4 h5 h6 h7 =>
   refine ⟨_ :: G, .inB ⟨rfl, h2, h4, ?_, _, _, G, h6, ?_, rfl, ?_, rfl⟩, ?_⟩
   ·rcases h5 with h5 | h5
    ·exact .inl h5
    ·exact .inr ⟨by simp [h5.1], by simpa [h5.1] using h5.2⟩
   ·have := h7.length; simp only [Nat.zero_add, h4, this]; exact Nat.le_refl _
   ·have := h7.length; simp only [List.drop_zero, h4, ← this]; rw [List.take_of_length_le (Nat.le_refl _)]; exact h7
   ·intro x hx; rcases List.mem_cons.1 hx with rfl | hx; exact .inl ⟨rfl, h1, rfl⟩; exact .inr hx
theorem Acc.fresh {A0 : AH} (h : Acc A0.size A s l G) (hf : Fresh A0 G A) : ∃ F, SlR A s l F ∧ Fresh A0 F A := by
 obtain ⟨F, h1, h2, h3, h4⟩ := h.foot hf.lo hf.nodup
 exact ⟨F, h1, h2, h3, h1.bound⟩
omit [Dat α] in
theorem appE_ne {P : Program} {t : TypeId} {w : Nat} {x : Value} (h : ∀ b, x ≠ .string b) : appE P t w x = w := by
 cases x with
 | string s => exact absurd rfl (h s)
 | _ => rfl
omit [Dat α] in
theorem appE_str {P : Program} {t : TypeId} {w n : Nat} {A : AH} {x v : Value} {vs : List Value} (h : aSource A w x = some (n, v :: vs)) (hv : ∀ k i, v ≠ .int k i) : appE P t w x = w := by
 refine appE_ne fun b e => ?_
 subst e
 unfold aSource at h
 simp only at h
 split at h
 ·simp only [Option.some.injEq, Prod.mk.injEq] at h
  have h2 := h.2
  unfold bytesOf at h2
  cases hb : b.data.toList with
  | nil => rw [hb] at h2; cases h2
  | cons a l => rw [hb] at h2; simp only [List.map_cons, List.cons.injEq] at h2; exact hv _ _ h2.1.symm
 ·cases h
theorem Sl.v_str (s : Sl) (b : ByteArray) : s.v ≠ .string b := by
 unfold Sl.v
 intro h
 cases h
theorem Acc.app {P : Program} {ro : Nat} {t : TypeId} {x : Value} {n : Nat} {vs : List Value} {xs : List α} {Gx : List Nat} (h : Acc lo A s l G) (hro : ro ≤ lo) (ht : tElemSize P t = some (Dat.w α)) (hsrc : aSource A (Dat.w α) x = some (n, vs))
 (hn : n = xs.length) (hx : Reps A xs vs Gx) (hd : s.nl = true ∨ s.b ∉ Gx) (hlim : l.length + n < 4294967296) (hlo : lo ≤ A.size)
 (hns : s.nl = true → ∀ b, x ≠ .string b := by first | (intro h; cases h; done) | (intro _ b h; cases h; done) | exact fun _ b => Sl.v_str _ b) :
 ∃ s' A', aAppend P ro A t s.v x = some (s'.v, A') ∧ Acc lo A' s' (l ++ xs) (G ++ Gx) ∧ Grow lo s.b A A' ∧ (s'.nl = s.nl ∧ s'.b = s.b ∧ A' = A ∨ A.size ≤ s'.b ∧ s'.nl = false) := by
 have hneB : ∀ k : Nat, k < 4294967296 → k < BIG := fun k hk => by unfold BIG; omega
 have hfr : ∀ (o : AObj) (ys : List α) (ws : List Value) (H : List Nat), Reps A ys ws H → Reps (A.new o) ys ws H := fun o ys ws H hr => hr.frame fun b hb => ⟨AH.gNo (by have := hr.bound b hb; omega), by have := hr.bound b hb; show b < A.size + 1; omega⟩
 have hL : ∀ k : Nat, k < 4294967296 ↔ k < LIM := fun k => by unfold LIM; exact Iff.rfl
 cases h with
 | nil =>
   simp only [List.length_nil, Nat.zero_add] at hlim
   by_cases h0 : n = 0
   ·have hxs : xs = [] := List.eq_nil_of_length_eq_zero (by omega)
    subst hxs
    obtain rfl : Gx = [] := by cases hx; rfl
    refine ⟨.nil, A, ?_, by simpa using Acc.nil, (Ext.refl A).grow _ _, .inl ⟨rfl, rfl, rfl⟩⟩
    unfold aAppend
    simp [ht, Sl.v_nil, hsrc, (hL n).1 hlim, h0]
    intro h; unfold LIM at h; omega
   ·refine ⟨⟨false, A.size, 0, n, BIG⟩, A.new (.cells vs (Dat.w α)), ?_, ?_, (Ext.new A _).grow _ _, .inr ⟨Nat.le_refl _, rfl⟩⟩
    ·have e : (Sl.mk false A.size 0 n BIG).v = .slice (some ⟨A.size, 0, none⟩) n BIG := rfl
     rw [Sl.v_nil, e]
     unfold aAppend
     simp [ht, hsrc, (hL n).1 hlim, h0, appE_ne (hns rfl)]
    ·refine .own hlo (Nat.lt_succ_self _) (fun hm => ?_) (by simpa using hn) (.inl rfl) (AH.gNs _ _) (by simpa using hfr _ _ _ _ hx)
     have := hx.bound _ (by simpa using hm); omega
 | empty b o =>
   simp only [List.length_nil, Nat.zero_add] at hlim
   by_cases h0 : n = 0
   ·have hxs : xs = [] := List.eq_nil_of_length_eq_zero (by omega)
    subst hxs
    obtain rfl : Gx = [] := by cases hx; rfl
    refine ⟨_, A, ?_, by simpa using Acc.empty b o, (Ext.refl A).grow _ _, .inl ⟨rfl, rfl, rfl⟩⟩
    unfold aAppend
    have hB : 0 < BIG := by unfold BIG; omega
    simp [ht, hsrc, (hL n).1 hlim, h0, Sl.v, hB]
    intro h; unfold LIM at h; omega
   ·refine ⟨⟨false, A.size, 0, n, BIG⟩, A.new (.cells vs (Dat.w α)), ?_, ?_, (Ext.new A _).grow _ _, .inr ⟨Nat.le_refl _, rfl⟩⟩
    ·unfold aAppend
     have hB : 0 < BIG := by unfold BIG; omega
     simp [ht, hsrc, (hL n).1 hlim, h0, Sl.v, hB]
    ·refine .own hlo (Nat.lt_succ_self _) (fun hm => ?_) (by simpa using hn) (.inl rfl) (AH.gNs _ _) (by simpa using hfr _ _ _ _ hx)
     have := hx.bound _ (by simpa using hm); omega
 | @own b m c cs l G h1 h2 h3 h4 h5 h6 h7 =>
   have hrow : aRow A ⟨b, 0, none⟩ (m * Dat.w α) = some cs := by
    have := h7.length
    rw [aRow_get h6 (by rw [h4, this]; omega), List.drop_zero, h4, ← this, List.take_of_length_le (Nat.le_refl _)]
   have hlim' : m + n < LIM := by rw [← hL, h4]; exact hlim
   rcases h5 with rfl | ⟨rfl, h5⟩
   ·have hd' : b ∉ Gx := by rcases hd with hd | hd; cases hd; exact hd
    refine ⟨⟨false, A.size, 0, m + n, BIG⟩, (A.put b .dead).new (.cells (cs ++ vs) (Dat.w α)), ?_, ?_, ⟨Nat.le_succ _, fun x hx hne => ?_⟩, .inr ⟨Nat.le_refl _, rfl⟩⟩
    ·unfold aAppend
     simp [ht, hsrc, hlim', Sl.v, hrow, h6, Nat.le_trans hro h1, AH.zP]
    ·have fr : ∀ (ys : List α) (ws : List Value) (H : List Nat), b ∉ H → Reps A ys ws H → Reps ((A.put b .dead).new (.cells (cs ++ vs) (Dat.w α))) ys ws H := fun ys ws H hb hr => hr.frame fun y hy => by
      have hyb := hr.bound y hy
      exact ⟨(AH.gNo (by show y ≠ A.size; omega)).trans (AH.gPo fun e => hb (e ▸ hy)), by show y < A.size + 1; omega⟩
     refine .own hlo (Nat.lt_succ_self _) (fun hm => ?_) (by rw [h4, hn, List.length_append]) (.inl rfl) (AH.gNs _ _) ((fr _ _ _ h3 h7).append (fr _ _ _ hd' hx))
     rcases List.mem_append.1 hm with hm | hm
     ·have := h7.bound _ hm; omega
     ·have := hx.bound _ hm; omega
    ·rw [AH.gNo (by show x ≠ A.size; omega)]
     refine AH.gPo fun e => ?_
     subst e
     rcases hne with hne | hne
     ·omega
     ·exact hne rfl
   ·by_cases h0 : n = 0
    ·have hxs : xs = [] := List.eq_nil_of_length_eq_zero (by omega)
     subst hxs
     obtain rfl : Gx = [] := by cases hx; rfl
     refine ⟨_, A, ?_, by simpa using Acc.own h1 h2 h3 h4 (.inr ⟨rfl, h5⟩) h6 h7, (Ext.refl A).grow _ _, .inl ⟨rfl, rfl, rfl⟩⟩
     unfold aAppend
     have hlim2 : c < LIM := by omega
     simp [ht, hsrc, hlim', h0, Sl.v, h5, hlim2]
    ·refine ⟨⟨false, A.size, 0, c + n, BIG⟩, A.new (.cells (cs ++ vs) (Dat.w α)), ?_, ?_, (Ext.new A _).grow _ _, .inr ⟨Nat.le_refl _, rfl⟩⟩
     ·unfold aAppend
      have hnc : ¬ c + n ≤ c := by omega
      by_cases hc0 : c = 0
      ·subst hc0
       have hcs : cs = [] := List.eq_nil_of_length_eq_zero (by have := h7.length; rw [this, ← h4]; simp)
       have hB : 0 < BIG := by unfold BIG; omega
       have hlim3 : n < LIM := by omega
       simp [ht, hsrc, h0, Sl.v, hcs, hB, hlim3]
      ·simp only [ht, hsrc, Sl.v, Bool.false_eq_true, if_false]
       simp [hlim', h5, hrow, hc0, if_neg hnc, h0]
     ·refine .own hlo (Nat.lt_succ_self _) (fun hm => ?_) (by rw [h4, hn, List.length_append]) (.inl rfl) (AH.gNs _ _) ((hfr _ _ _ _ h7).append (hfr _ _ _ _ hx))
      rcases List.mem_append.1 hm with hm | hm
      ·have := h7.bound _ hm; omega
      ·have := hx.bound _ hm; omega
theorem src_cells {x : Addr} {n : Nat} {vs cs : List Value} {e : Nat} {l : List α} {G : List Nat} (hg : A.get x.block = .cells cs e) (hs : x.spot = none) (hr : Reps A l vs G) (hn : n = l.length) (hv : (cs.drop x.off).take (n * Dat.w α) = vs) (hl : x.off + n * Dat.w α ≤ cs.length) (c : Nat) :
 aSource A (Dat.w α) (.slice (some x) n c) = some (n, vs) := by
 unfold aSource
 by_cases h0 : n = 0
 ·subst h0
  have : l = [] := List.eq_nil_of_length_eq_zero hn.symm
  subst this
  cases hr
  simp
 ·obtain ⟨b, o, sp⟩ := x
  cases hs
  simp only [h0, if_false]
  rw [aRow_get hg hl, hv]
  rfl
theorem SlR.src {F : List Nat} (h : SlR A s l F) : ∃ vs G, aSource A (Dat.w α) s.v = some (l.length, vs) ∧ Reps A l vs G ∧ ∀ b, b ∈ G → b ∈ F := by
 cases h with
 | nil h hl hF => subst h; subst hl; exact ⟨[], [], rfl, .nil, by simp⟩
 | empty h hn hc hl hF => subst hl; refine ⟨[], [], ?_, .nil, by simp⟩; unfold Sl.v aSource; simp [h, hn]
 | inB h =>
   obtain ⟨h1, h2, h3, h4, c, cs, G, h5, h6, h7, h8, rfl⟩ := h
   refine ⟨cs, G, ?_, h8, fun b hb => List.mem_cons_of_mem _ hb⟩
   unfold Sl.v
   rw [h1, ← h3]
   exact src_cells h5 rfl h8 h3 h7 h6 _
theorem Acc.src (h : Acc lo A s l G) : ∃ vs, aSource A (Dat.w α) s.v = some (l.length, vs) ∧ Reps A l vs G := by
 cases h with
 | nil => exact ⟨[], rfl, .nil⟩
 | empty b o => exact ⟨[], by unfold Sl.v aSource; simp, .nil⟩
 | @own b n c cs l G h1 h2 h3 h4 h5 h6 h7 =>
   refine ⟨cs, ?_, h7⟩
   have hl := h7.length
   have := src_cells (x := ⟨b, 0, none⟩) h6 rfl h7 h4 (by rw [List.drop_zero, List.take_of_length_le (by rw [h4, hl]; exact Nat.le_refl _)]) (by rw [h4, ← hl]; simp) c
   rw [h4] at this
   unfold Sl.v
   simpa [h4] using this
theorem Acc.lit {P : Program} {ro : Nat} {t : TypeId} {n : Nat} {vs : List Value} {xs : List α} {Gx : List Nat} (h : Acc lo A s l G) (hro : ro ≤ lo) (ht : tElemSize P t = some (Dat.w α)) (hn : n = xs.length) (hx : Reps A xs vs Gx) (hd : s.nl = true ∨ s.b ∉ Gx)
 (hlim : l.length + n < 4294967296) (hlo : lo ≤ A.size) :
 ∃ s' A', aAppend P ro (A.new (.cells vs (Dat.w α))) t s.v (Sl.mk false A.size 0 n n).v = some (s'.v, A') ∧ Acc lo A' s' (l ++ xs) (G ++ Gx) ∧ Grow lo s.b A A' ∧ A.size < A'.size ∧ (s'.nl = s.nl ∧ s'.b = s.b ∨ A.size < s'.b ∧ s'.nl = false) := by
 have hx' : Reps (A.new (.cells vs (Dat.w α))) xs vs Gx := hx.frame fun b hb => ⟨AH.gNo (by have := hx.bound b hb; omega), by have := hx.bound b hb; show b < A.size + 1; omega⟩
 obtain ⟨s', A', h1, h2, h3, h4⟩ := (h.ext (Ext.new A (.cells vs (Dat.w α)))).app (x := (Sl.mk false A.size 0 n n).v) hro ht (n := n) (vs := vs) (by
  unfold Sl.v aSource
  by_cases h0 : n = 0
  ·have : vs = [] := List.eq_nil_of_length_eq_zero (by rw [hx.length, ← hn, h0]; simp)
   subst h0
   simp [this]
  ·simp only [h0, if_false, Bool.false_eq_true]
   have e1 : n * Dat.w α = vs.length := by rw [hx.length, ← hn]
   rw [aRow_get (AH.gNs _ _) (by omega), List.drop_zero, List.take_of_length_le (by omega)]
   rfl) hn hx' hd hlim (by show lo ≤ A.size + 1; omega)
 refine ⟨s', A', h1, h2, ⟨Nat.le_trans (Nat.le_succ _) h3.size, fun x hx hne => (h3.get x (by show x < A.size + 1; omega) hne).trans (AH.gNo (by omega))⟩, Nat.lt_of_lt_of_le (Nat.lt_succ_self _) h3.size, ?_⟩
 rcases h4 with ⟨h4, h5, h6⟩ | ⟨h4, h5⟩
 ·exact .inl ⟨h4, h5⟩
 ·exact .inr ⟨h4, h5⟩
end
def bv (b : UInt8) : Value := .int .u8 b.toNat
theorem Reps.u8 {A : AH} {l : List UInt8} {cs : List Value} {G : List Nat} (h : Reps A l cs G) : cs = l.map bv ∧ G = [] := by
 induction h with
 | nil => exact ⟨rfl, rfl⟩
 | cons h k ih => obtain ⟨rfl, rfl⟩ := h; obtain ⟨rfl, rfl⟩ := ih; exact ⟨rfl, rfl⟩
theorem strOf_bv : ∀ l : List UInt8, strOf (l.map bv) = some l
 | [] => rfl
 | b :: l => by
   show (strOf (l.map bv)).map (UInt8.ofNat (b.toNat : Int).toNat :: ·) = _
   rw [strOf_bv l]
   simp
abbrev bs (l : List UInt8) : ByteArray := ⟨l.toArray⟩
abbrev ls (s : ByteArray) : List UInt8 := s.data.toList
theorem bs_ls (s : ByteArray) : bs (ls s) = s := by cases s; simp [bs, ls]
theorem ls_bs (l : List UInt8) : ls (bs l) = l := by simp [bs, ls]
theorem bs_size (l : List UInt8) : (bs l).size = l.length := by show l.toArray.size = _; simp
theorem ls_length (s : ByteArray) : (ls s).length = s.size := by show s.data.toList.length = s.data.size; simp
theorem bget_ls (s : ByteArray) (i : Nat) (h : i < s.size) : (ls s)[i]'(by rw [ls_length]; exact h) = bget s i := by
 have h' : i < s.data.size := h
 unfold bget
 simp [Array.getD_eq_getD_getElem?, Array.getElem?_eq_getElem h']
theorem bs_extract (s : ByteArray) (i j : Nat) : s.extract i j = bs (((ls s).drop i).take (j - i)) := by
 have h : (s.extract i j).data = s.data.extract i j := by simp
 have e : s.extract i j = ⟨(s.extract i j).data⟩ := rfl
 rw [e, h]
 congr 1
 apply Array.toList_inj.1
 simp [List.extract_eq_take_drop]
theorem SlR.toStr {A : AH} {s : Sl} {l : List UInt8} {F : List Nat} (h : SlR A s l F) :
 (if s.nl = true ∨ s.len = 0 then some (Value.string .empty, A) else (rowK s.o s.len (A.get s.b)).bind fun cs => (strOf cs).map fun l => (Value.string ⟨l.toArray⟩, A)) = some (Value.string (bs l), A) := by
 cases h with
 | nil h hl _ => subst h; subst hl; rfl
 | empty h hn _ hl _ => subst hl; rw [if_pos (.inr hn)]; rfl
 | inB h =>
   obtain ⟨h1, h2, h3, h4, c, cs, G, h5, h6, h7, h8, rfl⟩ := h
   have hw : Dat.w UInt8 = 1 := rfl
   rw [hw, Nat.mul_one] at h6 h7
   by_cases h0 : s.len = 0
   ·rw [if_pos (.inr h0)]
    have : l = [] := List.eq_nil_of_length_eq_zero (by omega)
    subst this; rfl
   ·rw [if_neg (by simp [h1, h0]), h5]
    unfold rowK
    simp only [if_pos h6, Option.bind_some, h7, h8.u8.1, strOf_bv, Option.map_some]
end Go.AM
namespace Go.AM
open Go
set_option linter.all false
theorem amS :
 (∀ {α : Type} (a b : α), (if True then a else b) = a) ∧ (∀ {α : Type} (a b : α), (if False then a else b) = b) ∧ (∀ p : Prop, (p ∧ True) = p) ∧ (∀ p : Prop, (True ∧ p) = p) ∧ (∀ p : Prop, (p ∧ p) = p) ∧
 (∀ h : Decidable True, @decide True h = true) ∧ (∀ h : Decidable False, @decide False h = false) ∧ (∀ p : Prop, (p ∨ False) = p) ∧ (∀ p : Prop, (False ∨ p) = p) ∧ (∀ p : Prop, (p ∨ True) = True) ∧ (∀ p : Prop, (True ∨ p) = True) ∧
 (∀ p : Prop, (p ∧ False) = False) ∧ (∀ p : Prop, (False ∧ p) = False) ∧ ((¬ False) = True) ∧ ((¬ True) = False) ∧ (∀ {α : Type} (a b : α), (a ≠ b) = ¬ (a = b)) ∧
 (∀ b : Bool, (b || false) = b) ∧ (∀ b : Bool, (b || true) = true) ∧ (∀ b : Bool, (true || b) = true) ∧ (∀ b : Bool, (false || b) = b) ∧ ((!true) = false) ∧ ((!false) = true) ∧ (∀ b : Bool, (b == true) = b) ∧ (∀ b : Bool, (b == false) = !b) ∧
 (∀ {α : Type} (a d : α) (l : List α), (a :: l).getD 0 d = a) ∧ (∀ {α : Type} (a d : α) (l : List α) (n : Nat), (a :: l).getD (n + 1) d = l.getD n d) ∧ (∀ a : Nat, List.elem a [] = false) ∧ (∀ (a b : Nat) (l : List Nat), List.elem a (b :: l) = (a == b || l.elem a)) ∧
 (∀ n : Nat, n * 1 = n) ∧ (∀ n : Nat, n + 0 = n) ∧ (∀ n : Nat, 0 + n = n) ∧ (∀ n : Nat, 0 * n = 0) ∧ (∀ n : Nat, ((n : Int)).toNat = n) ∧ (∀ n : Nat, n ≤ n ↔ True) ∧
 (∀ {α β : Type} (a : α) (f : α → Option β), (some a).bind f = f a) ∧ (∀ {α β : Type} (a : α) (f : α → β), (some a).map f = some (f a)) ∧ (∀ {α β : Type} (f : α → β), (none : Option α).map f = none) ∧ (∀ {α β : Type} (f : α → Option β), (none : Option α).bind f = none) ∧
 (∀ {α : Type} (a : α) (l : List α), (a :: l).length = l.length + 1) ∧ (∀ {α : Type}, ([] : List α).length = 0) ∧ (∀ {α : Type} (l : List α), l.drop 0 = l) ∧ (∀ {α : Type} (a : α) (l : List α) (n : Nat), (a :: l).drop (n + 1) = l.drop n) ∧
 (∀ {α : Type} (l : List α), l.take 0 = []) ∧ (∀ {α : Type} (a : α) (l : List α) (n : Nat), (a :: l).take (n + 1) = a :: l.take n) ∧ (∀ {α : Type} (a : α) (l : List α), (a :: l)[0]? = some a) ∧ (∀ {α : Type} (a : α) (l : List α) (n : Nat), (a :: l)[n + 1]? = l[n]?) ∧
 (∀ {α : Type} (a b : α) (l : List α), (a :: l).set 0 b = b :: l) ∧ (∀ {α : Type} (a b : α) (l : List α) (n : Nat), (a :: l).set (n + 1) b = a :: l.set n b) ∧ (∀ {α β : Type} (f : α → β) (a : α) (l : List α), (a :: l).map f = f a :: l.map f) ∧ (∀ {α β : Type} (f : α → β), ([] : List α).map f = []) ∧
 (∀ {α : Type} (l : List α), [] ++ l = l) ∧ (∀ {α : Type} (l : List α), l ++ [] = l) ∧ (∀ {α : Type} (a : α) (l k : List α), (a :: l) ++ k = a :: (l ++ k)) ∧ (∀ {α : Type}, (#[] : Array α).toList = []) ∧ (∀ {α : Type} (l : List α), l.toArray.toList = l) ∧
 ((false = true) = False) ∧ ((true = false) = False) ∧ (∀ a b : Int, (a == b) = decide (a = b)) ∧ (∀ a b : Int, (a != b) = !decide (a = b)) ∧ (∀ n : Nat, (n == n) = true) ∧ (∀ {α : Type} (a : α), (a = a) = True) ∧ (∀ n : Int, n + 0 = n) ∧ (∀ n : Int, 0 + n = n) ∧ (∀ n : Int, (n ≤ n) = True) ∧ (((0 : Nat) : Int) = 0) ∧
 (∀ {α : Type} (l : List α) (i : Nat) (v : α), (l.set i v).length = l.length) ∧ (∀ b : Bool, (b == b) = true) ∧ (∀ w : Bool, guardB w undef = false) ∧ (∀ {α : Type}, ([] : List (List α)).flatten = []) ∧ (∀ {α : Type} (l : List α) (k : List (List α)), (l :: k).flatten = l ++ k.flatten) :=
 ⟨fun _ _ => if_pos trivial, fun _ _ => if_neg not_false, fun _ => and_true _, fun _ => true_and _, fun _ => and_self _, fun h => by simp, fun h => by simp, fun _ => or_false _, fun _ => false_or _, fun _ => or_true _, fun _ => true_or _,
  fun _ => and_false _, fun _ => false_and _, not_false_eq_true, not_true_eq_false, fun _ _ => rfl, Bool.or_false, Bool.or_true, Bool.true_or, Bool.false_or, rfl, rfl, fun b => by cases b <;> rfl, fun b => by cases b <;> rfl,
  fun _ _ _ => rfl, fun _ _ _ _ => rfl, fun _ => rfl, fun a b l => List.elem_cons, Nat.mul_one, Nat.add_zero, Nat.zero_add, Nat.zero_mul, Int.toNat_natCast, fun _ => by simp, fun _ _ => rfl, fun _ _ => rfl, fun _ => rfl, fun _ => rfl,
  fun _ _ => rfl, rfl, fun _ => rfl, fun _ _ _ => rfl, fun _ => rfl, fun _ _ _ => rfl, fun _ _ => rfl, fun _ _ _ => rfl, fun _ _ _ => rfl, fun _ _ _ _ => rfl, fun _ _ _ => rfl, fun _ => rfl,
  fun _ => rfl, List.append_nil, fun _ _ _ => rfl, rfl, fun _ => rfl, by simp, by simp, fun a b => by by_cases h : a = b <;> simp [h], fun a b => by by_cases h : a = b <;> simp [h], fun _ => by simp, fun _ => by simp, Int.add_zero, Int.zero_add, fun _ => by simp, rfl,
  fun _ _ _ => by simp, fun b => by cases b <;> rfl, fun _ => rfl, rfl, fun _ _ => rfl⟩
theorem amR (P : Program) (ro : Nat) (X : FuncId → List Value → AH → ARes → AH → Prop) : type_of% (And.intro (amC P ro X) (And.intro amV (And.intro (amO P ro X) (And.intro amK (And.intro (amB P) (And.intro (amG P ro X) (And.intro amH (And.intro amQ (And.intro amL (And.intro (amN P) (amTA P ro X))))))))))) :=
 And.intro (amC P ro X) (And.intro amV (And.intro (amO P ro X) (And.intro amK (And.intro (amB P) (And.intro (amG P ro X) (And.intro amH (And.intro amQ (And.intro amL (And.intro (amN P) (amTA P ro X))))))))))
end Go.AM
namespace Go.AM
open Go
set_option linter.all false
abbrev TIns := Int × ByteArray × Int
abbrev TProgram := List TIns
abbrev TFault := Int × Int
abbrev TReply := Bool × Int × ByteArray
abbrev TSource := ByteArray × ByteArray
abbrev TTarget := ByteArray × TProgram
abbrev TSpace := List TSource × List TTarget
abbrev TSeen := ByteArray × Bool × ByteArray
abbrev TGlance := ByteArray × Bool × ByteArray
abbrev TRecord := TProgram × List TGlance × ByteArray
abbrev TStore := Int × List ByteArray × List TRecord
abbrev TKept := Int × TStore × ByteArray × ByteArray
abbrev TBuilt := Int × ByteArray × List ByteArray × TStore × List ByteArray × List ByteArray × ByteArray × ByteArray
class Mk (α : Type) where
 sz : α → Nat
 nm : α → Nat
 mrk : Int → α → α
 nm_mk : ∀ k x, nm (mrk k x) = nm x
 bd : α → Prop
instance : Mk Int := ⟨fun _ => 0, fun _ => 1, fun k _ => k, fun _ _ => rfl, fun _ => True⟩
instance : Mk Bool := ⟨fun _ => 0, fun _ => 1, fun k _ => decide (k % 3 = 0), fun _ _ => rfl, fun _ => True⟩
instance : Mk ByteArray := ⟨fun s => s.size, fun _ => 1, fun k _ => mkText k, fun _ _ => rfl, fun s => s.size < 281474976710656⟩
instance {α β : Type} [Mk α] [Mk β] : Mk (α × β) := ⟨fun x => Mk.sz x.1 + Mk.sz x.2, fun x => Mk.nm x.1 + Mk.nm x.2, fun k x => (Mk.mrk k x.1, Mk.mrk (k + Mk.nm x.1) x.2), fun k x => by simp [Mk.nm_mk], fun x => Mk.bd x.1 ∧ Mk.bd x.2⟩
def nmL {α : Type} [Mk α] (l : List α) : Nat := (l.map Mk.nm).sum
def mkL {α : Type} [Mk α] (k : Int) : List α → List α
 | [] => []
 | x :: l => Mk.mrk k x :: mkL (k + Mk.nm x) l
section
variable {α : Type} [Mk α]
theorem nmL_mkL : ∀ (k : Int) (l : List α), nmL (mkL k l) = nmL l
 | _, [] => rfl
 | k, x :: l => by
   have := nmL_mkL (k + Mk.nm x) l
   simp only [nmL, mkL, List.map_cons, List.sum_cons, Mk.nm_mk] at this ⊢
   rw [this]
instance : Mk (List α) := ⟨szL Mk.sz, nmL, mkL, nmL_mkL, fun l => l.length < 281474976710656 ∧ ∀ x ∈ l, Mk.bd x⟩
theorem mkL_length : ∀ (k : Int) (l : List α), (mkL k l).length = l.length
 | _, [] => rfl
 | k, x :: l => by simp [mkL, mkL_length]
theorem nmL_take_succ (l : List α) (i : Nat) (h : i < l.length) : nmL (l.take (i + 1)) = nmL (l.take i) + Mk.nm l[i] := by
 rw [List.take_succ_eq_append_getElem h]
 simp only [nmL, List.map_append, List.sum_append, List.map_cons, List.map_nil, List.sum_cons, List.sum_nil, Nat.add_zero]
theorem nmL_take_le (l : List α) (i : Nat) : nmL (l.take i) ≤ nmL l := by
 have : nmL l = nmL (l.take i) + nmL (l.drop i) := by
  have h2 : nmL (l.take i ++ l.drop i) = nmL (l.take i) + nmL (l.drop i) := by simp only [nmL, List.map_append, List.sum_append]
  rwa [List.take_append_drop] at h2
 omega
theorem mkL_take_succ : ∀ (k : Int) (l : List α) (i : Nat) (h : i < l.length), mkL k (l.take (i + 1)) = mkL k (l.take i) ++ [Mk.mrk (k + nmL (l.take i)) l[i]]
 | k, x :: l, 0, _ => by simp [mkL, nmL]
 | k, x :: l, i + 1, h => by
   have := mkL_take_succ (k + Mk.nm x) l i (by simpa using h)
   simp only [List.take_succ_cons, mkL, this, List.cons_append, List.getElem_cons_succ]
   congr 4
   simp [nmL]
   omega
theorem mkL_get : ∀ (k : Int) (l : List α) (i : Nat) (h : i < (mkL k l).length), (mkL k l)[i] = Mk.mrk (k + nmL (l.take i)) (l[i]'(by rwa [mkL_length] at h))
 | k, x :: l, 0, _ => by simp [mkL, nmL]
 | k, x :: l, i + 1, h => by
   have := mkL_get (k + Mk.nm x) l i (by simpa [mkL] using h)
   simp only [mkL, List.getElem_cons_succ, this]
   congr 1
   simp [nmL]
   omega
omit [Mk α] in
theorem szL_length (f : α → Nat) (l : List α) : l.length ≤ szL f l := by unfold szL; omega
omit [Mk α] in
theorem szL_get (f : α → Nat) (l : List α) (i : Nat) (h : i < l.length) : f l[i] + l.length ≤ szL f l := by
 have h1 := szL_take_succ f l i h
 have h2 := szL_take_le f l (i + 1)
 have h3 : (l.take i).length ≤ szL f (l.take i) := szL_length _ _
 rw [List.length_take, Nat.min_eq_left (by omega)] at h3
 omega
theorem nmL_le (c : Nat) (l : List α) (h : ∀ x : α, Mk.nm x ≤ c + c * Mk.sz x) : nmL l ≤ c * szL Mk.sz l := by
 induction l with
 | nil => simp [nmL]
 | cons x l ih =>
   have := h x
   have e1 : nmL (x :: l) = Mk.nm x + nmL l := by simp [nmL]
   have e2 : szL Mk.sz (x :: l) = 1 + Mk.sz x + szL Mk.sz l := by simp [szL]; omega
   rw [e1, e2, Nat.mul_add, Nat.mul_add]
   omega
end
theorem rep_Ins {A : AH} {x : TIns} {cs : List Value} {F : List Nat} : Dat.rep A x cs F ↔ cs = [.int .i64 x.1, .string x.2.1, .int .i64 x.2.2] ∧ F = [] ∧ x.2.1.size < BIG := by
 constructor
 ·rintro ⟨_, _, _, _, rfl, rfl, ⟨rfl, rfl⟩, ⟨_, _, _, _, rfl, rfl, ⟨rfl, rfl, z1⟩, ⟨rfl, rfl⟩⟩⟩
  exact ⟨rfl, by simp, z1⟩
 ·rintro ⟨rfl, hF, z1⟩
  exact ⟨[.int .i64 x.1], [.string x.2.1, .int .i64 x.2.2], [], [], rfl, by simp [hF], ⟨rfl, rfl⟩, ⟨[.string x.2.1], [.int .i64 x.2.2], [], [], rfl, by simp, ⟨rfl, rfl, z1⟩, ⟨rfl, rfl⟩⟩⟩
theorem rep_Program {A : AH} {x : TProgram} {cs : List Value} {F : List Nat} : Dat.rep A x cs F ↔ ∃ (s1 : Sl) (G1 : List Nat), cs = [s1.v] ∧ F = G1 ∧ SlR A s1 x G1 := by
 constructor
 ·rintro ⟨s1, rfl, h1⟩
  exact ⟨s1, _, rfl, by simp, h1⟩
 ·rintro ⟨s1, G1, rfl, rfl, h1⟩
  exact ⟨s1, rfl, h1⟩
theorem rep_Fault {A : AH} {x : TFault} {cs : List Value} {F : List Nat} : Dat.rep A x cs F ↔ cs = [.int .i64 x.1, .int .i64 x.2] ∧ F = [] ∧ True := by
 constructor
 ·rintro ⟨_, _, _, _, rfl, rfl, ⟨rfl, rfl⟩, ⟨rfl, rfl⟩⟩
  exact ⟨rfl, by simp, trivial⟩
 ·rintro ⟨rfl, hF, _⟩
  exact ⟨[.int .i64 x.1], [.int .i64 x.2], [], [], rfl, by simp [hF], ⟨rfl, rfl⟩, ⟨rfl, rfl⟩⟩
theorem rep_Record {A : AH} {x : TRecord} {cs : List Value} {F : List Nat} : Dat.rep A x cs F ↔ ∃ (s1 s2 : Sl) (G1 G2 : List Nat), cs = [s1.v, s2.v, .string x.2.2] ∧ F = G1 ++ (G2) ∧ SlR A s1 x.1 G1 ∧ SlR A s2 x.2.1 G2 ∧ x.2.2.size < BIG := by
 constructor
 ·rintro ⟨_, _, _, _, rfl, rfl, ⟨s1, rfl, h1⟩, ⟨_, _, _, _, rfl, rfl, ⟨s2, rfl, h2⟩, ⟨rfl, rfl, z1⟩⟩⟩
  exact ⟨s1, s2, _, _, rfl, by simp, h1, h2, z1⟩
 ·rintro ⟨s1, s2, G1, G2, rfl, hF, h1, h2, z1⟩
  exact ⟨[s1.v], [s2.v, .string x.2.2], (G1), (G2), rfl, by simp [hF], ⟨s1, rfl, h1⟩, ⟨[s2.v], [.string x.2.2], (G2), [], rfl, by simp, ⟨s2, rfl, h2⟩, ⟨rfl, rfl, z1⟩⟩⟩
theorem nmL_Ins (l : List TIns) : nmL l ≤ 3 * szL Mk.sz l := nmL_le 3 l fun x => by show 1 + (1 + 1) ≤ _; omega
end Go.AM
namespace Go.AM
open Go
set_option linter.all false
theorem SlR.extx {α : Type} [Dat α] {A A' : AH} {s : Sl} {l : List α} {G F : List Nat} (h : SlR A s l G) (hX : ExtX F A A') (hd : ∀ b, b ∈ G → b ∉ F) : SlR A' s l G :=
 h.frame fun b hb => ⟨hX.get b (h.bound b hb) (hd b hb), Nat.lt_of_lt_of_le (h.bound b hb) hX.size⟩
theorem ExtX.new {F : List Nat} {A A' : AH} (h : ExtX F A A') (o : AObj) : ExtX F A (A'.new o) := h.trans ((Ext.new A' o).x F)
theorem row_get {c ci : List Value} {o w : Nat} (h : (c.drop o).take w = ci) (j : Nat) (hj : j < w) : c[o + j]? = ci[j]? := by
 rw [← h, List.getElem?_take, if_pos hj, List.getElem?_drop]
theorem row_of {c vs : List Value} {o w : Nat} (hv : vs.length = w) (hl : o + w ≤ c.length) (h : ∀ j, j < w → c[o + j]? = vs[j]?) : (c.drop o).take w = vs := by
 refine List.ext_getElem? fun j => ?_
 rw [List.getElem?_take, List.getElem?_drop]
 by_cases hj : j < w
 ·rw [if_pos hj, h j hj]
 ·rw [if_neg hj, List.getElem?_eq_none (by omega)]
theorem SlR.step {α : Type} [Dat α] {A : AH} {s : Sl} {l m : List α} {F : List Nat} {i : Nat} (hs : SlR A s (m ++ l.drop i) F) (hN : F.Nodup) (hm : m.length = i) (hi : i < l.length) :
 ∃ c Fi ci, s.nl = false ∧ s.b < A.size ∧ i < s.len ∧ s.b ∈ F ∧ A.get s.b = .cells c (Dat.w α) ∧ s.o + i * Dat.w α + Dat.w α ≤ c.length ∧ (c.drop (s.o + i * Dat.w α)).take (Dat.w α) = ci ∧ Dat.rep A l[i] ci Fi ∧ Fi.Nodup ∧ s.b ∉ Fi ∧ (∀ b, b ∈ Fi → b ∈ F) ∧
 ∀ (H : AH) (x' : α) (c' : List Value), ExtX (s.b :: Fi) A H → H.get s.b = .cells c' (Dat.w α) → c'.length = c.length → (∀ j, j < s.o + i * Dat.w α ∨ s.o + i * Dat.w α + Dat.w α ≤ j → c'[j]? = c[j]?) →
   Dat.rep H x' ((c'.drop (s.o + i * Dat.w α)).take (Dat.w α)) Fi → SlR H s (m ++ [x'] ++ l.drop (i + 1)) F := by
 have hbd := hs.bound
 obtain ⟨c, G1, Fi, G2, ci, n1, b1, i1, g1, hc, rfl, hrow, hr, hup⟩ := hs.focus (i := i) (by simp; omega)
 have hel : (m ++ l.drop i)[i]'(by simp; omega) = l[i] := by
  rw [List.getElem_append_right (by omega)]
  simp [hm]
 rw [hel] at hr
 obtain ⟨q1, q2, q3⟩ := nodup_focus hN
 refine ⟨c, Fi, ci, n1, b1, i1, by simp, g1, hc, hrow, hr, ?_, q2, fun b hb => by simp [hb], fun H x' c' hX k1 k2 k3 k4 => ?_⟩
 ·rw [List.nodup_cons, List.nodup_append, List.nodup_append] at hN
  exact hN.2.2.1.1
 ·have := hup H x' Fi c' k1 (Nat.lt_of_lt_of_le b1 hX.size) k2 k3 (fun b hb => by
   have hb2 := hbd b (by rcases List.mem_append.1 hb with hb | hb <;> simp [hb])
   refine ⟨hX.get b hb2 fun hm => ?_, Nat.lt_of_lt_of_le hb2 hX.size⟩
   rcases List.mem_cons.1 hm with rfl | hm
   ·exact q1 hb
   ·exact q3 b hm hb) k4
  rw [set_append_drop _ _ _ _ hm hi] at this
  exact this
theorem big_lt {n : Nat} (h : n < BIG) : n < 4611686018427387904 := h
structure Low (n : Nat) (A A' : AH) : Prop where
 size : A.size ≤ A'.size
 get : ∀ b, n ≤ b → b < A.size → A'.get b = A.get b
theorem Low.refl (n : Nat) (A : AH) : Low n A A := ⟨Nat.le_refl _, fun _ _ _ => rfl⟩
theorem Low.trans {n : Nat} {A A' A'' : AH} (h : Low n A A') (k : Low n A' A'') : Low n A A'' :=
 ⟨Nat.le_trans h.size k.size, fun b hn hb => (k.get b hn (Nat.lt_of_lt_of_le hb h.size)).trans (h.get b hn hb)⟩
theorem Ext.low {A A' : AH} (h : Ext A A') (n : Nat) : Low n A A' := ⟨h.size, fun b _ hb => h.get b hb⟩
theorem Low.new {n : Nat} {A A' : AH} (h : Low n A A') (o : AObj) : Low n A (A'.new o) := h.trans ((Ext.new A' o).low n)
theorem Low.put {n : Nat} {A A' : AH} (h : Low n A A') {b : Nat} (hb : b < n) (o : AObj) : Low n A (A'.put b o) :=
 ⟨h.size, fun x hn hx => (AH.gPo (by omega)).trans (h.get x hn hx)⟩
theorem SlR.low {α : Type} [Dat α] {n : Nat} {A A' : AH} {s : Sl} {l : List α} {G : List Nat} (h : SlR A s l G) (hf : ∀ b, b ∈ G → n ≤ b) (hL : Low n A A') : SlR A' s l G :=
 h.frame fun b hb => ⟨hL.get b (hf b hb) (h.bound b hb), Nat.lt_of_lt_of_le (h.bound b hb) hL.size⟩
theorem Dat.low {α : Type} [Dat α] {n : Nat} {A A' : AH} {x : α} {cs : List Value} {G : List Nat} (h : Dat.rep A x cs G) (hf : ∀ b, b ∈ G → n ≤ b) (hL : Low n A A') : Dat.rep A' x cs G :=
 Dat.frame h fun b hb => ⟨hL.get b (hf b hb) (Dat.bound h b hb), Nat.lt_of_lt_of_le (Dat.bound h b hb) hL.size⟩
theorem Dat.ext {α : Type} [Dat α] {A A' : AH} {x : α} {cs : List Value} {G : List Nat} (h : Dat.rep A x cs G) (hE : Ext A A') : Dat.rep A' x cs G :=
 Dat.frame h fun b hb => ⟨hE.get b (Dat.bound h b hb), Nat.lt_of_lt_of_le (Dat.bound h b hb) hE.size⟩
theorem nmL_length {α : Type} [Mk α] (l : List α) (h : ∀ x : α, 1 ≤ Mk.nm x) : l.length ≤ nmL l := by
 induction l with
 | nil => simp
 | cons x l ih => have := h x
                  have e : nmL (x :: l) = Mk.nm x + nmL l := by simp [nmL]
                  rw [e, List.length_cons]; omega
theorem set_hit {l : List Value} {i : Nat} {a : Value} (h : i < l.length) : (l.set i a)[i]? = some a := by simp [h]
theorem set_miss {l : List Value} {i j : Nat} {a : Value} (h : i ≠ j) : (l.set i a)[j]? = l[j]? := List.getElem?_set_ne h
theorem rowK_inv {o n : Nat} {x : AObj} {cs : List Value} (h : rowK o n x = some cs) : ∃ c e, x = .cells c e ∧ o + n ≤ c.length ∧ (c.drop o).take n = cs := by
 cases x with
 | dead => cases h
 | map es => cases h
 | cells c e =>
   unfold rowK at h
   simp only at h
   split at h
   ·cases h; exact ⟨c, e, rfl, ‹_›, rfl⟩
   ·cases h
instance : DecidableEq TIns := inferInstanceAs (DecidableEq (Int × ByteArray × Int))
instance : DecidableEq TGlance := inferInstanceAs (DecidableEq (ByteArray × Bool × ByteArray))
instance : DecidableEq TTarget := inferInstanceAs (DecidableEq (ByteArray × List TIns))
instance : DecidableEq TRecord := @instDecidableEqProd _ _ (inferInstanceAs (DecidableEq (List TIns))) (@instDecidableEqProd _ _ (inferInstanceAs (DecidableEq (List TGlance))) inferInstance)
instance : DecidableEq TStore := @instDecidableEqProd _ _ inferInstance (@instDecidableEqProd _ _ inferInstance (inferInstanceAs (DecidableEq (List TRecord))))
instance : DecidableEq TKept := @instDecidableEqProd _ _ inferInstance (@instDecidableEqProd _ _ (inferInstanceAs (DecidableEq TStore)) inferInstance)
instance : DecidableEq TBuilt := @instDecidableEqProd _ _ inferInstance (@instDecidableEqProd _ _ inferInstance (@instDecidableEqProd _ _ inferInstance (@instDecidableEqProd _ _ (inferInstanceAs (DecidableEq TStore)) inferInstance)))
end Go.AM
namespace Go.AM
open Go Go.RowKit Go.ChangeShapes Go.WideShapes
set_option linter.all false
set_option linter.unusedVariables false
structure ArgL (P : Program) (t : TypeId) (α : Type) (AV : AH → α → Value → Prop) (sz : α → Prop) : Prop where
 ext : ∀ {A A' : AH} {x : α} {v : Value}, AV A x v → Ext A A' → AV A' x v
 lay : ∀ {H : Type} {enc : TypeId × Value → H} {ng : Nat} {W : World} {m : Emb} {A : AH} {base : Nat} {v : Value} {d : DataW H} {p : List MemPlace}, Value.okWide P W .any base t v → DataW.Trod enc P W 0 (fun _ => true) true t v d p →
  (∀ n ∈ d.weights P t, n ≤ reachBytes) → SimR ng W m A → ∃ m' A' x u, SimR ng W m' A' ∧ m.Le m' ∧ Ext A A' ∧ AV A' x u ∧ VRel m' u v ∧ sz x
def Cell1 {α : Type} [Dat α] (A : AH) (x : α) (v : Value) : Prop := ∃ F, Dat.rep A x [v] F
def CellN {α : Type} [Dat α] (A : AH) (x : α) (v : Value) : Prop := ∃ cs F, v = .agg cs.toArray ∧ Dat.rep A x cs F
section
variable {P : Program} {t : TypeId} {α : Type} [Dat α] {isd : ∀ H : Type, DataW H → α → Prop} {sz : α → Prop}
theorem ArgL.cell (h : LayT P t α isd sz) (hc : ∀ (W : World) (base : Nat) (v : Value), Value.okWide P W .any base t v → v.cells = #[v]) (hw : Dat.w α = 1) : ArgL P t α Cell1 sz := by
 refine ⟨fun ⟨F, hr⟩ hE => ⟨F, Dat.ext hr hE⟩, fun {H enc ng W m A base v d p} hok ht hwt hS => ?_⟩
 obtain ⟨fuel, ht⟩ := ht
 rw [hc W base v hok] at ht
 obtain ⟨m', A', x, cs', F, g1, g2, g3, g4, g5, g6, g7, g8⟩ := h.lay fuel _ (d, p) ht hwt hS
 cases g5 with
 | cons u _ l _ h1 h2 =>
   cases h2
   exact ⟨m', A', x, u, g1, g2, g3, ⟨F, g4⟩, h1, g8⟩
theorem ArgL.struct {fs : Array Field} (h : LayT P t α isd sz) (hu : P.underlying t = some (.struct fs)) : ArgL P t α CellN sz := by
 refine ⟨fun ⟨cs, F, e, hr⟩ hE => ⟨cs, F, e, Dat.ext hr hE⟩, fun {H enc ng W m A base v d p} hok ht hwt hS => ?_⟩
 obtain ⟨cs, rfl, _⟩ := okWide_struct hu hok
 obtain ⟨fuel, ht⟩ := ht
 obtain ⟨m', A', x, cs', F, g1, g2, g3, g4, g5, g6, g7, g8⟩ := h.lay fuel _ (d, p) ht hwt hS
 exact ⟨m', A', x, .agg cs'.toArray, g1, g2, g3, ⟨cs', F, rfl, g4⟩, .agg _ _ (by simpa [Value.cells] using g5) (by simpa using g6), g8⟩
theorem okWide_cells_str (hu : P.underlying t = some .string) (W : World) (base : Nat) (v : Value) (h : Value.okWide P W .any base t v) : v.cells = #[v] := by obtain ⟨n, rfl⟩ := okWide_string hu h; rfl
end
structure ArgsL (P : Program) (ts : List TypeId) (Q : AH → List Value → Prop) : Prop where
 lay : ∀ {H : Type} {enc : TypeId × Value → H} {ng : Nat} {W : World} {m : Emb} {A : AH} {base : Nat} {vs : List Value} {ds : List (DataW H)} {ps : List MemPlace},
  (∀ (j : Nat) t v, ts[j]? = some t → vs[j]? = some v → Value.okWide P W .any base t v) → DataW.TrodAll enc P W 0 (fun _ => true) true ts vs ds ps → (∀ n ∈ DataW.weightsEach P ts ds, n ≤ reachBytes) → SimR ng W m A →
  ∃ m' A' us, SimR ng W m' A' ∧ m.Le m' ∧ Ext A A' ∧ Q A' us ∧ VRels m' us vs
section
variable {P : Program}
theorem ArgsL.nil : ArgsL P [] (fun _ us => us = []) := by
 refine ⟨fun {H enc ng W m A base vs ds ps} _ ht _ hS => ?_⟩
 cases vs with
 | nil => exact ⟨m, A, [], hS, .refl m, Ext.refl A, rfl, .nil⟩
 | cons v vs => cases ds <;> exact ht.elim
theorem ArgsL.cons {t : TypeId} {ts : List TypeId} {α : Type} {AV : AH → α → Value → Prop} {sz : α → Prop} {Q : AH → List Value → Prop} (h : ArgL P t α AV sz) (k : ArgsL P ts Q) :
 ArgsL P (t :: ts) (fun A us => ∃ x u us', us = u :: us' ∧ AV A x u ∧ sz x ∧ Q A us') := by
 refine ⟨fun {H enc ng W m A base vs ds ps} hok ht hw hS => ?_⟩
 cases vs with
 | nil => cases ds <;> exact ht.elim
 | cons v vs =>
   cases ds with
   | nil => exact ht.elim
   | cons d ds =>
     obtain ⟨p, q, h1, h2, _⟩ := ht
     simp only [DataW.weightsEach] at hw
     obtain ⟨m1, A1, x, u, g1, g2, g3, g4, g5, g6⟩ := h.lay (hok 0 t v rfl rfl) h1 (fun n hn => hw n (List.mem_append_left _ hn)) hS
     obtain ⟨m2, A2, us, k1, k2, k3, k4, k5⟩ := k.lay (fun j t v hj hv => hok (j + 1) t v hj hv) h2 (fun n hn => hw n (List.mem_append_right _ hn)) g1
     exact ⟨m2, A2, u :: us, k1, g2.trans k2, g3.trans k3, ⟨x, u, us, rfl, h.ext g4 k3, g6, k4⟩, .cons _ _ _ _ (g5.mono k2) k5⟩
end
theorem SimR.setGlob {ng : Nat} {W : World} {m : Emb} {A : AH} (h : SimR ng W m A) {g : Nat} (hg : g < ng) {c : List Value} {c' : Array Value} {el : TypeId} {fz : Nat × Nat} (hh : W.heap[g]? = some (.cells c' el fz)) (hk : m.k g = c'.size)
 (he : m.e g = 1) (hc : VRels m c c'.toList) (h1 : ∀ v ∈ c, v.oneCell' = true) : SimR ng W m (A.put g (.cells c 1)) := by
 obtain ⟨d, r0, s0⟩ := h.glob g hg
 have hlive : ∀ b, (A.put g (.cells c 1)).get b ≠ .dead → b ≠ g → A.get b ≠ .dead := fun b hb hne => by rwa [AH.gPo hne] at hb
 have hgs : g < A.size := h.dlt g d
 refine ⟨h.glob, h.dlt, ?_, ?_, ?_, ?_, ?_, h.bl, Nat.le_refl _, h.old⟩
 ·intro b c0 e0 hb
  by_cases hbg : b = g
  ·subst hbg
   rw [AH.gPs] at hb
   cases hb
   refine ⟨d, c', el, fz, by rw [r0]; exact hh, by rw [he]; exact .of (by decide), hk, ?_, ?_, fun hro => absurd hgs (by have hro' : A.size ≤ b := hro; omega)⟩
   ·rw [s0]; have := hc.length; simp only [Array.length_toList] at this; omega
   ·rw [s0]
    have := CRel.of hc h1
    simpa using this
  ·rw [AH.gPo hbg] at hb
   obtain ⟨q1, c1, el1, fz1, q2, q3, q4, q5, q6, q7⟩ := h.cells b c0 e0 hb
   exact ⟨q1, c1, el1, fz1, q2, q3, q4, q5, q6, q7⟩
 ·intro b es hb
  by_cases hbg : b = g
  ·subst hbg; rw [AH.gPs] at hb; cases hb
  ·rw [AH.gPo hbg] at hb; exact h.maps b es hb
 ·intro b hb hlo
  by_cases hbg : b = g
  ·subst hbg; exact absurd hgs (by have hro' : A.size ≤ b := hlo; omega)
  ·exact h.rw b (hlive b hb hbg) hlo
 ·intro b b' hb hb' hlo hlo' e
  by_cases hbg : b = g
  ·subst hbg; exact absurd hgs (by have hro' : A.size ≤ b := hlo; omega)
  ·by_cases hbg' : b' = g
   ·subst hbg'; exact absurd hgs (by have hro' : A.size ≤ b' := hlo'; omega)
   ·exact h.inj b b' (hlive b hb hbg) (hlive b' hb' hbg') hlo hlo' e
 ·intro b hb hlo
  by_cases hbg : b = g
  ·subst hbg
   rw [r0]
   rcases Nat.lt_or_ge b W.heap.size with h' | h'
   ·exact h'
   ·rw [Array.getElem?_eq_none h'] at hh; cases hh
  ·exact h.lo b (hlive b hb hbg) hlo
def SimG (ng : Nat) (W : World) (m : Emb) (A : AH) : Prop :=
 SimR ng W m A ∧ ng ≤ A.size ∧ (∀ g, g < ng → m.e g = 1 ∧ m.k g = match W.heap[g]? with | some (.cells c _ _) => c.size | _ => 0)
theorem SimR.zero (ng : Nat) (W : World) : SimR ng W ⟨fun b => b < ng, fun b => b, fun _ => 0, fun b => match W.heap[b]? with | some (.cells c _ _) => c.size | _ => 0, fun _ => 1⟩ ⟨fun _ => .dead, ng⟩ :=
 ⟨fun g hg => ⟨hg, rfl, rfl⟩, fun b hb => hb, fun b c e h => (by cases h), fun b es h => (by cases h), fun b h => absurd rfl h, fun b b' h => absurd rfl h, fun b h => absurd rfl h, Nat.le_refl _, Nat.le_refl _, Below.refl _ _⟩
theorem SimG.start (ng : Nat) (W : World) : ∃ m A, SimG ng W m A ∧ ∀ b, A.get b = .dead :=
 ⟨_, _, ⟨SimR.zero ng W, Nat.le_refl _, fun g hg => ⟨rfl, rfl⟩⟩, fun b => rfl⟩
theorem SimG.table {ng : Nat} {W : World} {m : Emb} {A : AH} (h : SimG ng W m A) {P : Program} {n : String} {g : Nat} {t : TypeId} {cs : Array Value} {fuel : Nat} {d : DataW Unit} {p : List MemPlace} {α : Type} [Dat α] {isd : ∀ H : Type, DataW H → α → Prop} {sz : α → Prop}
 (hL : LayT P t α isd sz) (hg : g < ng) (hn : P.globalNamed n = some g) (hv : W.var? P n = some cs) (ht : DataW.trod (fun _ => ()) P W 0 (fun _ => true) false fuel t cs.toList = some (d, p)) (hw : ∀ k ∈ d.weights P t, k ≤ reachBytes)
 (hd : A.get g = .dead) (hF : ∀ (A' : AH) x c F, Dat.rep (α := α) A' x c F → ∀ b ∈ F, A'.get b ≠ .dead) :
 ∃ m' A' x c F, SimG ng W m' A' ∧ A'.get g = .cells c 1 ∧ Dat.rep A' x c F ∧ (∀ b ∈ F, b ≠ g) ∧ isd Unit d x ∧ A.size ≤ A'.size ∧ ∀ b, b < A.size → b ≠ g → A'.get b = A.get b := by
 obtain ⟨hS, hs, hek⟩ := h
 obtain ⟨m1, A1, x, c, F, g1, g2, g3, g4, g5, g6, g7, g8⟩ := hL.lay fuel _ (d, p) ht hw hS
 obtain ⟨dg, _, _⟩ := hS.glob g hg
 have hgA : g < A.size := hS.dlt g dg
 have hd1 : A1.get g = .dead := (g3.get g hgA).trans hd
 have hrow : ∃ el fz, W.heap[g]? = some (.cells cs el fz) := by
  unfold World.var? at hv
  rw [hn] at hv
  simp only [Option.bind_some] at hv
  split at hv
  ·cases hv; exact ⟨_, _, ‹_›⟩
  ·cases hv
 obtain ⟨el, fz, hrow⟩ := hrow
 obtain ⟨e1, k1⟩ := hek g hg
 rw [hrow] at k1
 have hek1 : ∀ g', g' < ng → m1.e g' = 1 ∧ m1.k g' = match W.heap[g']? with | some (.cells c _ _) => c.size | _ => 0 := fun g' hg' => by
  obtain ⟨dg', _, _⟩ := hS.glob g' hg'
  rw [g2.e g' dg', g2.k g' dg']
  exact hek g' hg'
 have hne : ∀ b ∈ F, b ≠ g := fun b hb e => by subst e; exact hF _ _ _ _ g4 b hb hd1
 refine ⟨m1, A1.put g (.cells c 1), x, c, F, ⟨g1.setGlob hg hrow (by rw [g2.k g dg]; exact k1) (by rw [g2.e g dg]; exact e1) g5 g6, Nat.le_trans hs g3.size, hek1⟩, AH.gPs _ _ _,
  Dat.frame g4 fun b hb => ⟨AH.gPo (hne b hb), Dat.bound g4 b hb⟩, hne, g7, g3.size, fun b hb hbg => (AH.gPo hbg).trans (g3.get b hb)⟩
def Fun1 {α : Type} (isd : ∀ H : Type, DataW H → α → Prop) : Prop := ∀ (H : Type) (d : DataW H) (x y : α), isd H d x → isd H d y → x = y
theorem law_returns {C : Checked} {X : Nat → FuncId → List Value → AH → ARes → AH → Prop} {f : FuncId} {fn : Func} {c : Code} {s : ChangeSpec} {ts : List TypeId} {G : AH → Prop} {Q : AH → List Value → Prop} {apart handsOn : Bool} {tb : TypeId}
 (hf : C.prog.funcs[f]? = some fn) (hb : fn.body = some c) (hnm : (fn.name == "runtime.NumGoroutine") = false) (hm : C.prog.follows .mixedOrders = true) (hX : XSound C.prog X)
 (hts : fn.params.toList = ts) (hrt : fn.resultTypes = #[tb]) (hub : C.prog.underlying tb = some .bool) (hlo : laidOutB C.prog = true) (hrd : (ts.all fun t => C.prog.readableRec t && decide (t < C.prog.types.size)) = true) (hvr : varsRowed C.prog s.vars = true)
 (hs : ∀ (H : Type) (ds gs : List (DataW H)), ds.length = ts.length → gs.length = s.vars.length → s.fn H (ds ++ gs) = { results := [.lit (.bool true)], args := ds, vars := gs })
 (hA : ArgsL C.prog ts Q) (hG : ∀ {A A' : AH}, G A → Ext A A' → G A')
 (hC : ∀ (A : AH) (us : List Value), G A → Q A us → ACalls C.prog A.size (X A.size) f us A (fun r _ => r = .ret (.bool true)))
 {H : Type} {enc : TypeId × Value → H} {W : World} {base : Nat} {args : Array Value} {ds gs : List (DataW H)} {before : List MemPlace}
 (hval : ∀ (j : Nat) t v, fn.params[j]? = some t → args[j]? = some v → Value.okWide C.prog W .any base t v)
 (hW : DataW.Whole enc C.prog fn.params.toList s.vars apart W args.toList ds gs before)
 (hsz : (DataW.weightsEach C.prog (fn.params.toList ++ s.plain.varTypes C.prog) (ds ++ gs)).all (· ≤ reachBytes) = true)
 {m : Emb} {A : AH} (hS : SimR C.prog.globals.size W m A) (hGA : G A) :
 Calls C.prog f args W fun e W' => ∃ v, e = .returned v ∧ s.post enc C.prog fn apart true handsOn false W args v W' := by
 have hW' := hW
 obtain ⟨p, q, hT, hV, rfl, hfz, hnd⟩ := hW
 rw [hts] at hT hsz
 have hlen : ∀ {ts : List TypeId} {vs : List Value} {ds : List (DataW H)} {ps : List MemPlace}, DataW.TrodAll enc C.prog W 0 (fun _ => true) true ts vs ds ps → ds.length = ts.length := by
  intro ts
  induction ts with
  | nil => intro vs ds ps h; cases vs <;> cases ds <;> first | rfl | exact h.elim
  | cons t ts ih =>
    intro vs ds ps h
    cases vs with
    | nil => cases ds <;> exact h.elim
    | cons v vs => cases ds with
      | nil => exact h.elim
      | cons d ds => obtain ⟨_, _, _, h2, _⟩ := h; simp [ih h2]
 have hlenV : ∀ {ns : List String} {gs : List (DataW H)} {ps : List MemPlace}, DataW.TrodVars enc C.prog W (fun _ => true) ns gs ps → gs.length = ns.length := by
  intro ns
  induction ns with
  | nil => intro gs ps h; cases gs with | nil => rfl | cons g gs => exact h.elim
  | cons n ns ih => intro gs ps h; cases gs with
    | nil => exact h.elim
    | cons g gs => obtain ⟨_, _, _, _, _, _, _, _, _, _, h2, _⟩ := h; simp [ih h2]
 have hwe : ∀ {ts us : List TypeId} {ds gs : List (DataW H)}, ds.length = ts.length → ∀ k ∈ DataW.weightsEach C.prog ts ds, k ∈ DataW.weightsEach C.prog (ts ++ us) (ds ++ gs) := by
  intro ts
  induction ts with
  | nil => intro us ds gs h k hk; cases ds <;> simp [DataW.weightsEach] at hk
  | cons t ts ih =>
    intro us ds gs h k hk
    cases ds with
    | nil => simp [DataW.weightsEach] at hk
    | cons d ds =>
      simp only [DataW.weightsEach, List.cons_append, List.mem_append] at hk ⊢
      rcases hk with hk | hk
      ·exact .inl hk
      ·exact .inr (ih (by simpa using h) k hk)
 obtain ⟨m', A', us, g1, g2, g3, g4, g5⟩ := hA.lay (fun j t v hj hv => hval j t v (by rw [← hts] at hj; simpa using hj) (by simpa using hv)) hT (fun k hk => by
  have := List.all_eq_true.1 hsz k (hwe (hlen hT) k hk)
  simpa using this) hS
 have hrun := law_calls (m := m') hf hb hnm hm hX g1 g5 (hC A' us (hG hGA g3) g4)
 have hargs : args.toList.toArray = args := by simp
 rw [hargs] at hrun
 refine hrun.mono fun e W' ⟨he, bel⟩ => ?_
 subst he
 have e1 := hs H ds gs (hlen hT) (hlenV hV)
 refine ⟨_, rfl, ds, gs, _, [], p, q, hW', ?_, ?_, ?_, bel.frame _, fun h => by cases h⟩
 ·rw [e1, hrt]; exact trodAll_mk1 (shut_bool hub _)
 ·rw [e1, hts]; exact args_stay hlo bel hrd hT
 ·rw [e1]; exact Below.trodVars hlo bel hvr hV
end Go.AM
