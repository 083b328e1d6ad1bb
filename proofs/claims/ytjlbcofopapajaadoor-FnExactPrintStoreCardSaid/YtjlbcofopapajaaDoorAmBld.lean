import Derived.Test.YtjlbcofopapajaaDoorAmTX
import Derived.Test.YtjlbcofopapajaaDoorAmSD
namespace Go.AM
open Go
set_option linter.all false
def hexB (n : Nat) : UInt8 := if n < 10 then UInt8.ofNat (48 + n) else UInt8.ofNat (87 + n)
def hexL : List UInt8 := [48, 49, 50, 51, 52, 53, 54, 55, 56, 57, 97, 98, 99, 100, 101, 102]
theorem hexL_get : ∀ n, n < 16 → hexL[n]? = some (hexB n) := by decide
def plainB (c : UInt8) : Prop := 32 ≤ c.toNat ∧ c.toNat ≤ 126 ∧ c.toNat ≠ 34 ∧ c.toNat ≠ 92
instance (c : UInt8) : Decidable (plainB c) := by unfold plainB; infer_instance
def qB (c : UInt8) : List UInt8 := if plainB c then [c] else [92, hexB (c.toNat / 16), hexB (c.toNat % 16)]
def qL : List UInt8 → List UInt8
 | [] => []
 | c :: l => qB c ++ qL l
theorem qL_append : ∀ a b : List UInt8, qL (a ++ b) = qL a ++ qL b
 | [], _ => rfl
 | c :: a, b => by rw [List.cons_append, qL, qL, qL_append a b, List.append_assoc]
theorem qL_take_succ {l : List UInt8} {i : Nat} (h : i < l.length) : qL (l.take (i + 1)) = qL (l.take i) ++ qB l[i] := by
 rw [List.take_succ_eq_append_getElem h, qL_append]
 simp [qL]
theorem qB_len (c : UInt8) : (qB c).length ≤ 3 := by unfold qB; split <;> simp
theorem qL_len : ∀ l : List UInt8, (qL l).length ≤ 3 * l.length
 | [] => Nat.le_refl _
 | c :: l => by
   have h1 := qB_len c
   have h2 := qL_len l
   simp only [qL, List.length_append, List.length_cons]
   omega
def quoteS (s : ByteArray) : ByteArray := bs (34 :: (qL (ls s) ++ [34]))
theorem quoteS_size (s : ByteArray) : (quoteS s).size ≤ 3 * s.size + 2 := by
 have := qL_len (ls s)
 have h : (ls s).length = s.size := by show s.data.toList.length = s.data.size; simp
 unfold quoteS
 rw [bs_size]
 simp
 omega
set_option maxRecDepth 100000 in
theorem and15 : ∀ n : Nat, n < 256 → (IntKind.u8.wrap ((BitVec.ofInt IntKind.u8.bits (n : Int) &&& BitVec.ofInt IntKind.u8.bits 15).toNat : Int)) = ((n % 16 : Nat) : Int) := by decide
theorem shr4 (n : Nat) : ((n : Int)).fdiv (2 ^ min 4 IntKind.u8.bits) = ((n / 16 : Nat) : Int) := by
 rw [show (2 : Int) ^ min 4 IntKind.u8.bits = 16 from rfl, Int.fdiv_eq_ediv_of_nonneg _ (by decide)]; rfl
theorem and_eq {P : Program} {t : TypeId} {k : IntKind} {a b : Int} : aBin P .and t (.int k a) (.int k b) = some (.int k (k.wrap (BitVec.ofInt k.bits a &&& BitVec.ofInt k.bits b).toNat)) := by simp [aBin, aInt]
theorem hexIx {P : Program} {t : TypeId} (ht : tKind P t = some .str) (k : IntKind) {n : Nat} (h : n < 16) :
 aIndex P t (.string ⟨#[48, 49, 50, 51, 52, 53, 54, 55, 56, 57, 97, 98, 99, 100, 101, 102]⟩) (.int k (n : Int)) = some (.int .u8 (hexB n).toNat) := by
 have hd : (#[48, 49, 50, 51, 52, 53, 54, 55, 56, 57, 97, 98, 99, 100, 101, 102] : Array UInt8)[n]? = some (hexB n) := by
  have := hexL_get n h
  unfold hexL at this
  rw [← this]
  simp
 unfold aIndex
 simp only [ht]
 rw [if_pos (by omega), show ((n : Int)).toNat = n from Int.toNat_natCast n]
 simp only [hd, Option.map_some]
theorem opWord_le (op : Int) : (opWord op).size ≤ 6 := by
 have h : ∀ x ∈ opsL, x.1.size ≤ 6 := by decide
 unfold opWord opRow
 rw [List.getD_eq_getElem?_getD]
 cases hq : opsL[op.toNat]? with
 | none => decide
 | some x => exact h x (List.mem_of_getElem? hq)
def lineS (x : TIns) : ByteArray :=
 if opKd x.1 = 116 then opWord x.1 ++ ⟨#[32]⟩ ++ quoteS x.2.1 else if opKd x.1 = 0 then opWord x.1 else opWord x.1 ++ ⟨#[32]⟩ ++ decS x.2.2.toNat
theorem lineS_size (x : TIns) (h : x.2.1.size ≤ 2000) (hn : x.2.2 ≤ 2000) : (lineS x).size ≤ 6009 := by
 have h1 := opWord_le x.1
 have h2 := quoteS_size x.2.1
 have h3 := decS_size x.2.2.toNat
 have e1 : (⟨#[32]⟩ : ByteArray).size = 1 := rfl
 unfold lineS
 split
 ·rw [ByteArray.size_append, ByteArray.size_append]; omega
 ·split
  ·omega
  ·rw [ByteArray.size_append, ByteArray.size_append]; omega
end Go.AM
namespace Go.AM
open Go Go.RowKit
set_option linter.all false
def tagB (T : TypeId) : Nat := TAG + (2 * T + 1)
def tagU (U : TypeId) : Nat := TAG + 2 * U
inductive BldX (fC fS : FuncId) (T U : TypeId) (ro : Nat) (f : FuncId) (args : List Value) (A : AH) : ARes → AH → Prop
 | check {b : Nat} {p v : Value} (hf : f = fC) (ha : args = [.pointer (some ⟨b, 0, none⟩)]) (hb : A.get b = .cells [p, v] (tagB T)) (hp : p = .pointer none ∨ p = .pointer (some ⟨b, 0, none⟩)) (hro : ro ≤ b) :
  BldX fC fS T U ro f args A (.ret (.tuple #[])) (A.put b (.cells [.pointer (some ⟨b, 0, none⟩), v] (tagB T)))
 | str {b g : Nat} {p : Value} {s : ByteArray} (hf : f = fS) (ha : args = [.pointer (some ⟨b, 0, none⟩)]) (hb : A.get b = .cells [p, .slice (some ⟨g, 0, none⟩) s.size BIG] (tagB T)) (hg : A.get g = .cells (bytesOf s) (tagU U))
  (h1 : 1 ≤ s.size) (hlim : s.size < 4294967296) (hrg : ro ≤ g) : BldX fC fS T U ro f args A (.ret (.string s)) (A.put g .dead)
theorem AH.put_same {A : AH} {b : Nat} {o : AObj} (h : A.get b = o) : A.put b o = A := by
 cases A with
 | mk get size =>
   unfold AH.put
   congr 1
   funext x
   show (if x = b then o else get x) = get x
   by_cases hx : x = b
   ·rw [if_pos hx, hx]; exact h.symm
   ·rw [if_neg hx]
section
variable {P : Program} {ng ro base : Nat} {w0 : World} {m : Emb} {A : AH} {w : World}
theorem bld_block (hS : Sim ng ro base w0 m A w) {b : Nat} {p v : Value} {T : TypeId} (hb : A.get b = .cells [p, v] (tagB T)) :
 m.dom b ∧ m.s b = 0 ∧ ∃ p' v', w.heap[m.r b]? = some (.cells #[p', v'] T (0, 0)) ∧ VRel m p p' ∧ VRel m v v' ∧ ETag (m.e b) (tagB T) T (0, 0) (m.s b) 2 ∧ m.k b = 2 := by
 obtain ⟨hd, c', el, fz, g1, g2, g3, g4, g5, g6⟩ := hS.cells b _ _ hb
 obtain ⟨t1, rfl, t3, t4⟩ := g2.tag (Nat.le_add_right _ _)
 have ht := tag_odd T
 have hsz : c'.size = 2 := t4 ht.2
 rw [show (tagB T - TAG) / 2 = T from ht.1] at t1
 subst t1
 have hc : ∃ p' v', c' = #[p', v'] := by
  obtain ⟨l⟩ := c'
  match l, hsz with
  | [p', v'], _ => exact ⟨p', v', rfl⟩
 obtain ⟨p', v', rfl⟩ := hc
 obtain ⟨_, p2, k1, k2⟩ := g5 0 p rfl
 obtain ⟨_, v2, k3, k4⟩ := g5 1 v rfl
 rw [t3] at k1 k3
 simp at k1 k3
 subst k1 k3
 exact ⟨hd, t3, p', v', g1, k2, k4, g2, g3⟩
theorem ptr_same {b : Nat} {v : Value} (h : VRel m (.pointer (some ⟨b, 0, none⟩)) v) (hs : m.s b = 0) : v = .pointer (some ⟨m.r b, 0, none⟩) := by
 obtain ⟨_, _, e, rfl, _⟩ := h.ptr_inv
 cases e
 rw [hs]
theorem slice_big {b o n : Nat} {v : Value} (h : VRel m (.slice (some ⟨b, o, none⟩) n BIG) v) (h1 : 1 ≤ n) : ∃ c, v = .slice (some ⟨m.r b, m.s b + o, none⟩) n c ∧ n ≤ c ∧ c * m.e b + (m.s b + o) = m.k b := by
 cases h with
 | slEmpty => omega
 | slExact _ _ _ _ _ hc _ => exact absurd hc (Nat.lt_irrefl _)
 | slBig _ _ _ c _ hn hk => exact ⟨c, rfl, hn, hk⟩
theorem bld_sound {fC fS : FuncId} {T U : TypeId} (hfC : ∀ args w, (callFunc fC args).run P w = .ok (.enter fC args) w) (hfS : ∀ args w, (callFunc fS args).run P w = .ok (.enter fS args) w)
 (hfresh : ∀ (b : Nat) (w : World), w.cell? ⟨b, 0, none⟩ = some (.pointer none) → w.shape? b = some (T, 2) → w.frozen? ⟨b, 0, none⟩ = false →
   Calls P fC #[.pointer (some ⟨b, 0, none⟩)] w fun e w' => e = .returned (.tuple #[]) ∧ w' = w.setCell ⟨b, 0, none⟩ (.pointer (some ⟨b, 0, none⟩)))
 (hused : ∀ (b : Nat) (w : World), w.cell? ⟨b, 0, none⟩ = some (.pointer (some ⟨b, 0, none⟩)) → Calls P fC #[.pointer (some ⟨b, 0, none⟩)] w fun e w' => e = .returned (.tuple #[]) ∧ w' = w)
 (hstr : ∀ (b g cap : Nat) (p : Value) (cur : Array Value) (l : List UInt8) (w : World), w.heap[b]? = some (.cells #[p, .slice (some ⟨g, 0, none⟩) l.length cap] T (0, 0)) → w.heap[g]? = some (.cells cur U (0, 0)) → cap ≠ 0 → l.length ≤ cur.size → l.length ≤ 9223372036854775807 → l ≠ [] →
   (∀ (j : Nat) (x : UInt8), l[j]? = some x → cur[j]? = some (Value.int .u8 x.toNat)) → Calls P fS #[.pointer (some ⟨b, 0, none⟩)] w fun e w' => e = .returned (.string ⟨l.toArray⟩) ∧ w' = w.drew.freeze ⟨g, 0, none⟩ l.length)
 {f : FuncId} {args : List Value} {r : ARes} {A' : AH} (h : BldX fC fS T U ro f args A r A') : CallSound P ng ro base w0 f args A r A' ∧ A.size ≤ A'.size := by
 cases h with
 | @check b p v hf ha hb hp hro =>
   subst hf ha
   refine ⟨fun m w args' hS hv => ?_, Nat.le_refl _⟩
   cases hv with
   | cons _ v1 _ l1 g1 hv =>
   cases hv
   obtain ⟨hd, hs, p', v', hh, hvp, hvv, het, hk⟩ := bld_block hS hb
   have hv1 := ptr_same g1 hs
   subst hv1
   left
   refine ⟨hfC _ _, ?_⟩
   have hcell : w.cell? ⟨m.r b, 0, none⟩ = some p' := by rw [cell_row hh]; rfl
   rcases hp with rfl | rfl
   ·cases hvp
    refine (hfresh (m.r b) w hcell (by simp [World.shape?, hh]) (by rw [frozen_row hh]; rfl)).mono ?_
    rintro e w' ⟨rfl, rfl⟩
    refine ⟨m, ?_, .tuple _ _ .nil⟩
    refine Step.put hS (by rw [hb]; simp) hro (heap_setCells [.pointer (some ⟨m.r b, 0, none⟩)] w (m.r b) 0 _ T (0, 0) hh) ?_ (fun es h => by cases h)
    intro c2 e2 h2
    cases h2
    refine ⟨_, T, (0, 0), rfl, het, by rw [hk]; rfl, by rw [hs]; exact Nat.le_refl _, ?_, freeRow_zero⟩
    rw [hs]
    intro i u hu
    match i, hu with
    | 0, hu => cases hu; exact ⟨rfl, _, rfl, by have := VRel.ptr (m := m) b 0 hd; rwa [hs] at this⟩
    | 1, hu => cases hu; obtain ⟨k1, u', k2, k3⟩ := (hS.cells b _ _ hb).2.choose_spec.choose_spec.choose_spec.2.2.2.2.1 1 v rfl; exact ⟨k1, v', rfl, hvv⟩
   ·have hp2 := ptr_same hvp hs
    subst hp2
    refine (hused (m.r b) w hcell).mono ?_
    rintro e w' ⟨rfl, rfl⟩
    refine ⟨m, ?_, .tuple _ _ .nil⟩
    rw [AH.put_same hb]
    exact Step.refl hS
 | @str b g p s hf ha hb hg h1 hlim hrg =>
   subst hf ha
   refine ⟨fun m w args' hS hv => ?_, Nat.le_refl _⟩
   cases hv with
   | cons _ v1 _ l1 g1 hv =>
   cases hv
   obtain ⟨hd, hs, p', v', hh, hvp, hvv, het, hk⟩ := bld_block hS hb
   have hv1 := ptr_same g1 hs
   subst hv1
   obtain ⟨_, c', el, fz, k1, k2, k3, k4, k5, k6⟩ := hS.cells g _ _ hg
   obtain ⟨t1, rfl, t3, _⟩ := k2.tag (Nat.le_add_right _ _)
   rw [show (tagU U - TAG) / 2 = U from (tag_even U).1] at t1
   subst t1
   have hesz : m.e g = 1 := k2.sz.trans (esz_tag _)
   obtain ⟨cap, rfl, hn, hk2⟩ := slice_big hvv h1
   rw [t3] at hh k4 k5
   rw [t3, hesz] at hk2
   have hll : s.data.toList.length = s.size := by show _ = s.data.size; simp
   rw [bytesOf_length] at k4
   left
   refine ⟨hfS _ _, ?_⟩
   have hcur : ∀ (j : Nat) (x : UInt8), s.data.toList[j]? = some x → c'[j]? = some (Value.int .u8 x.toNat) := fun j x hj => by
    have hb2 : (bytesOf s)[j]? = some (Value.int .u8 x.toNat) := by unfold bytesOf; rw [List.getElem?_map, hj]; rfl
    obtain ⟨_, v', h2, h3⟩ := k5 j _ hb2
    cases h3
    rwa [Nat.zero_add] at h2
   refine (hstr (m.r b) (m.r g) cap p' c' s.data.toList w (by rw [hll]; exact hh) k1 (by omega) (by omega) (by omega) (fun h => by rw [h] at hll; simp at hll; omega) hcur).mono ?_
   rintro e w' ⟨rfl, rfl⟩
   refine ⟨m, ?_, ?_⟩
   ·have hl : A.get g ≠ .dead := by rw [hg]; simp
    have hone : ∃ ob, OneBlock (m.r g) ob w (w.drew.freeze ⟨m.r g, 0, none⟩ s.data.toList.length) := by
     unfold World.freeze
     split
     ·exact ⟨_, rfl, rfl, rfl, rfl, k1, fun _ _ => rfl⟩
     ·have hlt := hS.lt hl
      refine ⟨_, rfl, rfl, rfl, by show (Array.modify _ _ _).size = _; rw [Array.size_modify]; rfl, Array.getElem?_eq_getElem (by show _ < (Array.modify _ _ _).size; rw [Array.size_modify]; exact hlt), fun k hk => ?_⟩
      simp only [Array.getElem?_modify]
      rw [if_neg (fun e => hk e.symm)]
      rfl
    obtain ⟨ob, hone⟩ := hone
    exact Step.put hS hl hrg hone (fun c e h => by cases h) (fun es h => by cases h)
   ·have : (⟨s.data.toList.toArray⟩ : ByteArray) = s := by cases s; simp
    rw [this]
    exact .string s
end
end Go.AM
namespace Go.AM
open Go
set_option linter.all false
def BldV (T U : TypeId) (lo : Nat) (A : AH) (b : Nat) (F : List Nat) (s : ByteArray) : Prop :=
 b < A.size ∧ ∃ p v : Value, A.get b = .cells [p, v] (tagB T) ∧ (p = .pointer none ∨ p = .pointer (some ⟨b, 0, none⟩)) ∧
   ((s = ⟨#[]⟩ ∧ v = Sl.nil.v ∧ F = []) ∨ ∃ g, v = (Sl.mk false g 0 s.size BIG).v ∧ A.get g = .cells (bytesOf s) (tagU U) ∧ lo ≤ g ∧ g < A.size ∧ g ≠ b ∧ F = [g] ∧ 1 ≤ s.size)
def Wr (b : Nat) (C : AH) (F0 : List Nat) (A' : AH) (F : List Nat) : Prop := C.size ≤ A'.size ∧ (∀ x, x < C.size → x ≠ b → x ∉ F0 → A'.get x = C.get x) ∧ ∀ x ∈ F, x ∈ F0 ∨ C.size ≤ x
theorem Wr.refl (b : Nat) (C : AH) (F : List Nat) : Wr b C F C F := ⟨Nat.le_refl _, fun _ _ _ _ => rfl, fun _ h => .inl h⟩
theorem Wr.ext {b : Nat} {C A A' : AH} {F0 F : List Nat} (h : Wr b C F0 A F) (hE : Ext A A') : Wr b C F0 A' F :=
 ⟨Nat.le_trans h.1 hE.size, fun x h1 h2 h3 => (hE.get x (Nat.lt_of_lt_of_le h1 h.1)).trans (h.2.1 x h1 h2 h3), h.2.2⟩
theorem Wr.trans {b : Nat} {C A A' : AH} {F0 F F' : List Nat} (h : Wr b C F0 A F) (k : Wr b A F A' F') : Wr b C F0 A' F' := by
 refine ⟨Nat.le_trans h.1 k.1, fun x h1 h2 h3 => (k.2.1 x (Nat.lt_of_lt_of_le h1 h.1) h2 fun hm => ?_).trans (h.2.1 x h1 h2 h3), fun x hx => ?_⟩
 ·rcases h.2.2 x hm with h4 | h4
  ·exact h3 h4
  ·omega
 ·rcases k.2.2 x hx with h4 | h4
  ·exact h.2.2 x h4
  ·exact .inr (Nat.le_trans h.1 h4)
theorem Wr.start {b : Nat} {C A A' : AH} {F0 F : List Nat} (hE : Ext C A) (h : Wr b A F0 A' F) : Wr b C F0 A' F :=
 ⟨Nat.le_trans hE.size h.1, fun x h1 h2 h3 => (h.2.1 x (Nat.lt_of_lt_of_le h1 hE.size) h2 h3).trans (hE.get x h1), fun x hx => (h.2.2 x hx).imp id (Nat.le_trans hE.size)⟩
theorem Wr.low {b : Nat} {C A : AH} {F0 F : List Nat} (h : Wr b C F0 A F) (hb : ∀ x ∈ F0, b ≤ x) : ∀ x, x < b → x < C.size → A.get x = C.get x := fun x hx hc => h.2.1 x hc (by omega) fun hm => by have := hb x hm; omega
theorem Wr.toExt {b : Nat} {A B A' : AH} {F : List Nat} (h : Wr b B [] A' F) (hE : Ext A B) (hA : A.size ≤ b) : Ext A A' :=
 ⟨Nat.le_trans hE.size h.1, fun x hx => (h.2.1 x (Nat.lt_of_lt_of_le hx hE.size) (by omega) (by simp)).trans (hE.get x hx)⟩
section
variable {P : Program} {ro lo b : Nat} {A A' : AH} {t T U : TypeId} {F : List Nat} {s : ByteArray}
theorem BldV.start (hb : b < A.size) (hg : A.get b = .cells [.pointer none, Sl.nil.v] (tagB T)) : BldV T U lo A b [] ⟨#[]⟩ := ⟨hb, _, _, hg, .inl rfl, .inl ⟨rfl, rfl, rfl⟩⟩
theorem BldV.frame (h : BldV T U lo A b F s) (hz : A.size ≤ A'.size) (hb : A'.get b = A.get b) (hF : ∀ x ∈ F, A'.get x = A.get x) : BldV T U lo A' b F s := by
 obtain ⟨h1, p, v, h2, h3, h4⟩ := h
 refine ⟨by omega, p, v, hb.trans h2, h3, h4.imp id ?_⟩
 rintro ⟨g, k1, k2, k3, k4, k5, rfl, k7⟩
 exact ⟨g, k1, (hF g (by simp)).trans k2, k3, by omega, k5, rfl, k7⟩
theorem BldV.ext (h : BldV T U lo A b F s) (hE : Ext A A') : BldV T U lo A' b F s := by
 refine h.frame hE.size (hE.get b h.1) fun x hx => ?_
 obtain ⟨_, p, v, _, _, h4⟩ := h
 rcases h4 with ⟨_, _, rfl⟩ | ⟨g, _, _, _, k4, _, rfl, _⟩
 ·cases hx
 ·obtain rfl : x = g := by simpa using hx
  exact hE.get _ k4
theorem BldV.foot (h : BldV T U lo A b F s) : ∀ x ∈ F, lo ≤ x ∧ x < A.size ∧ x ≠ b := by
 intro x hx
 obtain ⟨_, p, v, _, _, h4⟩ := h
 rcases h4 with ⟨_, _, rfl⟩ | ⟨g, _, _, k3, k4, k5, rfl, _⟩
 ·cases hx
 ·obtain rfl : x = g := by simpa using hx
  exact ⟨k3, k4, k5⟩
theorem app_tag0 (ht : tElemSize P t = some 1) : aAppend P ro A t Sl.nil.v (.string ⟨#[]⟩) = some (Sl.nil.v, A) := by
 rw [Sl.v_nil]
 unfold aAppend
 simp only [ht, aSource, if_true]
 rw [if_pos (by decide), if_neg (by decide), if_pos (by decide)]
theorem app_tagN (ht : tElemSize P t = some 1) (hu : tElem P t = some U) (h1 : 1 ≤ s.size) (hl : s.size < 4294967296) :
 aAppend P ro A t Sl.nil.v (.string s) = some ((Sl.mk false A.size 0 s.size BIG).v, A.new (.cells (bytesOf s) (tagU U))) := by
 have e : (Sl.mk false A.size 0 s.size BIG).v = .slice (some ⟨A.size, 0, none⟩) s.size BIG := rfl
 rw [Sl.v_nil, e]
 unfold aAppend appE
 simp only [ht, aSource, if_true, hu]
 rw [if_pos (by unfold LIM; omega), if_neg (by decide), if_neg (by omega)]
 rfl
theorem app_tagS {g : Nat} {s0 : ByteArray} (ht : tElemSize P t = some 1) (hu : tElem P t = some U) (hg : A.get g = .cells (bytesOf s0) (tagU U)) (hro : ro ≤ g) (hl : s0.size + s.size < 4294967296) :
 aAppend P ro A t (Sl.mk false g 0 s0.size BIG).v (.string s) = some ((Sl.mk false A.size 0 (s0 ++ s).size BIG).v, (A.put g .dead).new (.cells (bytesOf (s0 ++ s)) (tagU U))) := by
 have e : (Sl.mk false A.size 0 (s0 ++ s).size BIG).v = .slice (some ⟨A.size, 0, none⟩) (s0.size + s.size) BIG := by rw [ByteArray.size_append]; rfl
 have hrow : aRow A ⟨g, 0, none⟩ (s0.size * 1) = some (bytesOf s0) := by
  rw [aRow_get hg (by rw [bytesOf_length]; omega), List.drop_zero, Nat.mul_one, List.take_of_length_le (by rw [bytesOf_length]; exact Nat.le_refl _)]
 have hb2 : bytesOf (s0 ++ s) = bytesOf s0 ++ bytesOf s := by unfold bytesOf; simp
 have ht2 : tagHere P t 1 ⟨g, 0, none⟩ (tagU U) := ⟨rfl, rfl, by rw [hu]; rfl⟩
 rw [Sl.v_mk, e, hb2]
 unfold aAppend
 simp only [ht, aSource, if_true]
 rw [if_pos (by unfold LIM; omega), if_neg (Nat.lt_irrefl _), if_pos ⟨trivial, hro⟩, hrow]
 simp only [hg]
 rw [if_pos (.inr ht2)]
end
end Go.AM
namespace Go.AM
open Go
set_option linter.all false
def hexL2 : List UInt8 → List UInt8
 | [] => []
 | c :: l => hexB (c.toNat / 16) :: hexB (c.toNat % 16) :: hexL2 l
theorem hexL2_append : ∀ a b : List UInt8, hexL2 (a ++ b) = hexL2 a ++ hexL2 b
 | [], _ => rfl
 | c :: a, b => by rw [List.cons_append, hexL2, hexL2, hexL2_append a b]; rfl
theorem hexL2_len : ∀ l : List UInt8, (hexL2 l).length = 2 * l.length
 | [] => rfl
 | c :: l => by rw [hexL2, List.length_cons, List.length_cons, hexL2_len l, List.length_cons]; omega
theorem hexL2_take_succ {l : List UInt8} {i : Nat} (h : i < l.length) : hexL2 (l.take (i + 1)) = hexL2 (l.take i) ++ [hexB (l[i].toNat / 16), hexB (l[i].toNat % 16)] := by
 rw [List.take_succ_eq_append_getElem h, hexL2_append]
 rfl
def hexS (s : ByteArray) : ByteArray := bs (hexL2 (ls s))
theorem hexS_size (s : ByteArray) : (hexS s).size = 2 * s.size := by unfold hexS; rw [bs_size, hexL2_len, ls_length]
def joinS : List ByteArray → ByteArray
 | [] => ⟨#[]⟩
 | x :: l => (x ++ ⟨#[10]⟩) ++ joinS l
theorem joinS_append : ∀ a b : List ByteArray, joinS (a ++ b) = joinS a ++ joinS b
 | [], b => by
   rw [List.nil_append, joinS]
   apply ByteArray.ext
   simp
 | x :: a, b => by rw [List.cons_append, joinS, joinS, joinS_append a b, ← ba_assoc]
theorem joinS_one (x : ByteArray) : joinS [x] = x ++ ⟨#[10]⟩ := by
 rw [joinS, joinS]
 apply ByteArray.ext
 simp
theorem joinS_snoc (l : List ByteArray) (x : ByteArray) : joinS (l ++ [x]) = joinS l ++ (x ++ ⟨#[10]⟩) := by rw [joinS_append, joinS_one]
theorem joinS_size : ∀ (l : List ByteArray) (k : Nat), (∀ x ∈ l, x.size ≤ k) → (joinS l).size ≤ (k + 1) * l.length
 | [], _, _ => Nat.zero_le _
 | x :: l, k, h => by
   have h1 := h x (by simp)
   have h2 := joinS_size l k fun y hy => h y (by simp [hy])
   have e1 : (⟨#[10]⟩ : ByteArray).size = 1 := rfl
   rw [joinS, ByteArray.size_append, ByteArray.size_append, List.length_cons, Nat.mul_add]
   omega
theorem joinS_app_size (a b : List ByteArray) : (joinS (a ++ b)).size = (joinS a).size + (joinS b).size := by rw [joinS_append, ByteArray.size_append]
theorem joinS_take_le (l : List ByteArray) (i : Nat) : (joinS (l.take i)).size ≤ (joinS l).size := by
 conv => rhs; rw [← List.take_append_drop i l, joinS_app_size]
 omega
theorem joinS_take_succ {l : List ByteArray} {i : Nat} (h : i < l.length) : joinS (l.take (i + 1)) = joinS (l.take i) ++ (l[i] ++ ⟨#[10]⟩) := by
 rw [List.take_succ_eq_append_getElem h, joinS_snoc]
def doS (x : TIns) : ByteArray := ⟨#[100, 111, 32]⟩ ++ lineS x
def glS (g : TGlance) : ByteArray := ((if g.2.1 = true then ⟨#[97, 115, 107, 32]⟩ else ⟨#[104, 97, 115, 32]⟩) ++ g.1 ++ ⟨#[32]⟩) ++ hexS g.2.2
def recH (r : TRecord) : ByteArray := ⟨#[114, 101, 99, 111, 114, 100, 32]⟩ ++ hexS r.2.2
def endS : ByteArray := ⟨#[101, 110, 100]⟩
def recL (r : TRecord) : List ByteArray := [recH r] ++ r.1.map doS ++ r.2.1.map glS ++ [endS]
def txS (t : ByteArray) : ByteArray := ⟨#[116, 101, 120, 116, 32]⟩ ++ quoteS t
def stH (w : Int) : ByteArray := ⟨#[115, 116, 111, 114, 101, 32]⟩ ++ decS w.toNat
def recsL : List TRecord → List ByteArray
 | [] => []
 | r :: l => recL r ++ recsL l
theorem recsL_append : ∀ a b : List TRecord, recsL (a ++ b) = recsL a ++ recsL b
 | [], _ => rfl
 | r :: a, b => by rw [List.cons_append, recsL, recsL, recsL_append a b, List.append_assoc]
theorem recsL_take_succ {l : List TRecord} {i : Nat} (h : i < l.length) : recsL (l.take (i + 1)) = recsL (l.take i) ++ recL l[i] := by
 rw [List.take_succ_eq_append_getElem h, recsL_append]
 simp [recsL]
def stoL (s : TStore) : List ByteArray := [stH s.1] ++ s.2.1.map txS ++ recsL s.2.2
def storeS (s : TStore) : ByteArray := if StoreOk s then (if 200000 < (joinS (stoL s)).size then ⟨#[]⟩ else joinS (stoL s)) else ⟨#[]⟩
theorem doS_size {x : TIns} (h : x.2.1.size ≤ 2000) (hn : x.2.2 ≤ 2000) : (doS x).size ≤ 6012 := by
 have := lineS_size x h hn
 have e : (⟨#[100, 111, 32]⟩ : ByteArray).size = 3 := rfl
 unfold doS
 rw [ByteArray.size_append]
 omega
theorem mostN_le2 (op : Int) : mostN op ≤ 2000 := by unfold mostN; split; omega; split <;> omega
theorem insB2 {x : TIns} (h : InsOk x) : x.2.1.size ≤ 2000 ∧ x.2.2 ≤ 2000 := ⟨h.2.2.1, Int.le_trans h.2.2.2.2.1 (mostN_le2 _)⟩
theorem glS_size {g : TGlance} {w : Int} (hw : w ≤ 8) (h : GlanceOk g w) : (glS g).size ≤ 81 := by
 obtain ⟨⟨_, h1, _⟩, h2⟩ := h
 have h3 := hexS_size g.2.2
 have e : (⟨#[32]⟩ : ByteArray).size = 1 := rfl
 have e1 : (⟨#[97, 115, 107, 32]⟩ : ByteArray).size = 4 := rfl
 have e2 : (⟨#[104, 97, 115, 32]⟩ : ByteArray).size = 4 := rfl
 unfold glS
 split <;> rw [ByteArray.size_append, ByteArray.size_append, ByteArray.size_append] <;> omega
theorem recH_size {r : TRecord} {w : Int} (hw : w ≤ 8) (h : RecOk r w) : (recH r).size ≤ 23 := by
 have h3 := hexS_size r.2.2
 have h2 := h.2.2.1
 have e : (⟨#[114, 101, 99, 111, 114, 100, 32]⟩ : ByteArray).size = 7 := rfl
 unfold recH
 rw [ByteArray.size_append]
 omega
theorem txS_size {t : ByteArray} (h : t.size ≤ 2002) : (txS t).size ≤ 6013 := by
 have := quoteS_size t
 have e : (⟨#[116, 101, 120, 116, 32]⟩ : ByteArray).size = 5 := rfl
 unfold txS
 rw [ByteArray.size_append]
 omega
theorem stH_size {w : Int} (h : w ≤ 8) : (stH w).size ≤ 15 := by
 have := decS_size w.toNat
 have e : (⟨#[115, 116, 111, 114, 101, 32]⟩ : ByteArray).size = 6 := rfl
 unfold stH
 rw [ByteArray.size_append]
 omega
theorem recL_line {r : TRecord} {w : Int} (hw : w ≤ 8) (h : RecOk r w) : ∀ x ∈ recL r, x.size ≤ 6012 := by
 intro x hx
 unfold recL at hx
 simp only [List.mem_append, List.mem_singleton, List.mem_map] at hx
 rcases hx with ((rfl | ⟨y, hy, rfl⟩) | ⟨y, hy, rfl⟩) | rfl
 ·have := recH_size hw h; omega
 ·have := insB2 (h.1.2.2 y hy); exact doS_size this.1 this.2
 ·have := glS_size hw (h.2.2.2 y hy); omega
 ·decide
theorem recL_size {r : TRecord} {w : Int} (hw : w ≤ 8) (h : RecOk r w) : (joinS (recL r)).size ≤ 1220000 ∧ (recL r).length ≤ 402 := by
 have h1 := joinS_size [recH r] 23 (by simpa using recH_size hw h)
 have h2 := joinS_size (r.1.map doS) 6012 (by
  intro x hx
  obtain ⟨y, hy, rfl⟩ := List.mem_map.1 hx
  have := insB2 (h.1.2.2 y hy)
  exact doS_size this.1 this.2)
 have h3 := joinS_size (r.2.1.map glS) 81 (by
  intro x hx
  obtain ⟨y, hy, rfl⟩ := List.mem_map.1 hx
  exact glS_size hw (h.2.2.2 y hy))
 have h4 := joinS_size [endS] 3 (by simp; decide)
 have l1 := h.1.2.1
 have l2 := h.2.1
 unfold recL
 rw [joinS_app_size, joinS_app_size, joinS_app_size]
 simp only [List.length_append, List.length_map, List.length_singleton] at h1 h2 h3 h4 ⊢
 omega
theorem recsL_size {w : Int} (hw : w ≤ 8) : ∀ l : List TRecord, (∀ r ∈ l, RecOk r w) → (joinS (recsL l)).size ≤ 1220000 * l.length ∧ (recsL l).length ≤ 402 * l.length ∧ ∀ x ∈ recsL l, x.size ≤ 6012
 | [], _ => ⟨Nat.zero_le _, Nat.zero_le _, by simp [recsL]⟩
 | r :: l, h => by
   have h1 := recL_size hw (h r (by simp))
   have h2 := recsL_size hw l fun y hy => h y (by simp [hy])
   refine ⟨?_, ?_, fun x hx => ?_⟩
   ·rw [recsL, joinS_app_size, List.length_cons]; omega
   ·rw [recsL, List.length_append, List.length_cons]; omega
   ·rw [recsL, List.mem_append] at hx
    exact hx.elim (recL_line hw (h r (by simp)) x) (h2.2.2 x)
theorem texts_size {l : List ByteArray} (h : ∀ t ∈ l, t.size ≤ 2002) : (joinS (l.map txS)).size ≤ 6014 * l.length := by
 have := joinS_size (l.map txS) 6013 (by
  intro x hx
  obtain ⟨y, hy, rfl⟩ := List.mem_map.1 hx
  exact txS_size (h y hy))
 rwa [List.length_map] at this
theorem head_size {w : Int} {l : List ByteArray} (hw : w ≤ 8) (h : ∀ t ∈ l, t.size ≤ 2002) : (joinS ([stH w] ++ l.map txS)).size ≤ 16 + 6014 * l.length := by
 have h1 := joinS_size [stH w] 15 (by simpa using stH_size hw)
 have h2 := texts_size h
 rw [joinS_app_size]
 simp only [List.length_singleton] at h1
 omega
theorem stoL_size {s : TStore} (h : StoreOk s) : (joinS (stoL s)).size ≤ 2471000000 ∧ (stoL s).length ≤ 810000 ∧ ∀ x ∈ stoL s, x.size ≤ 6013 := by
 obtain ⟨h1, h2, h3, _, h4, h5⟩ := h
 have k1 := head_size h1.2 h4
 obtain ⟨k2, k3, k4⟩ := recsL_size h1.2 s.2.2 h5
 unfold stoL
 refine ⟨?_, ?_, fun x hx => ?_⟩
 ·rw [joinS_app_size]; omega
 ·simp only [List.length_append, List.length_map, List.length_singleton]; omega
 ·simp only [List.mem_append, List.mem_singleton, List.mem_map] at hx
  rcases hx with (rfl | ⟨y, hy, rfl⟩) | hx
  ·have := stH_size h1.2; omega
  ·exact txS_size (h4 y hy)
  ·have := k4 x hx; omega
theorem part1_size {r : TRecord} {w : Int} (hw : w ≤ 8) (h : RecOk r w) (j : Nat) : (joinS ([recH r] ++ (r.1.take j).map doS)).size ≤ 1220000 := by
 have h1 := (recL_size hw h).1
 have h2 := joinS_take_le (r.1.map doS) j
 rw [← List.map_take] at h2
 unfold recL at h1
 simp only [joinS_app_size] at h1 ⊢
 omega
theorem part2_size {r : TRecord} {w : Int} (hw : w ≤ 8) (h : RecOk r w) (j : Nat) : (joinS ([recH r] ++ r.1.map doS ++ (r.2.1.take j).map glS)).size ≤ 1220000 := by
 have h1 := (recL_size hw h).1
 have h2 := joinS_take_le (r.2.1.map glS) j
 rw [← List.map_take] at h2
 unfold recL at h1
 simp only [joinS_app_size] at h1 ⊢
 omega
theorem recsL_take_le (l : List TRecord) (i : Nat) : (joinS (recsL (l.take i))).size ≤ (joinS (recsL l)).size := by
 conv => rhs; rw [← List.take_append_drop i l, recsL_append, joinS_app_size]
 omega
theorem stoL_take_le (s : TStore) (i : Nat) : (joinS ([stH s.1] ++ s.2.1.map txS ++ recsL (s.2.2.take i))).size ≤ (joinS (stoL s)).size := by
 have := recsL_take_le s.2.2 i
 unfold stoL
 rw [joinS_app_size, joinS_app_size _ (recsL s.2.2)]
 omega
theorem stoL_pos (s : TStore) : 1 ≤ (joinS (stoL s)).size := by
 have e : (⟨#[10]⟩ : ByteArray).size = 1 := rfl
 unfold stoL
 rw [List.append_assoc, List.singleton_append, joinS, ByteArray.size_append, ByteArray.size_append]
 omega
theorem tail_size {s : TStore} (h : StoreOk s) (i : Nat) : (joinS ([stH s.1] ++ (s.2.1.take i).map txS)).size ≤ 31000000 := by
 obtain ⟨h1, h2, h3, _, h4, h5⟩ := h
 have k1 := head_size (l := s.2.1.take i) h1.2 fun t ht => h4 t (List.mem_of_mem_take ht)
 have : (s.2.1.take i).length ≤ s.2.1.length := by rw [List.length_take]; omega
 omega
theorem joinS_map_succ {α : Type} (L : List ByteArray) (f : α → ByteArray) {l : List α} {i : Nat} (h : i < l.length) : joinS (L ++ (l.take (i + 1)).map f) = joinS (L ++ (l.take i).map f) ++ (f l[i] ++ ⟨#[10]⟩) := by
 rw [List.take_succ_eq_append_getElem h, List.map_append, ← List.append_assoc, List.map_singleton, joinS_snoc]
theorem insB3 {x : TIns} (h : InsOk x) : 1 ≤ x.1 ∧ x.1 ≤ 15 ∧ x.2.1.size ≤ 2000 ∧ 0 ≤ x.2.2 ∧ x.2.2 ≤ 2000 := ⟨h.1, h.2.1, h.2.2.1, h.2.2.2.1, Int.le_trans h.2.2.2.2.1 (mostN_le2 _)⟩
theorem end_eq : endS ++ ⟨#[10]⟩ = ⟨#[101, 110, 100, 10]⟩ := rfl
theorem joinS_rec (L : List ByteArray) (r : TRecord) : joinS (L ++ ([recH r] ++ r.1.map doS ++ r.2.1.map glS)) ++ (endS ++ ⟨#[10]⟩) = joinS (L ++ recL r) := by
 rw [← joinS_snoc]
 unfold recL
 simp
end Go.AM
