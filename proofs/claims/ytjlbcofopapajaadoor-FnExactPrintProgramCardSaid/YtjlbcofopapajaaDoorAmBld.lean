import Derived.Test.YtjlbcofopapajaaDoorAmTX
import Derived.Test.YtjlbcofopapajaaDoorAmSD
namespace Go.AM
open Go
set_option linter.all false
def hexB (n : Nat) : UInt8 := if n < 10 then UInt8.ofNat (48 + n) else UInt8.ofNat (87 + n)
def hexL : List UInt8 := [48, 49, 50, 51, 52, 53, 54, 55, 56, 57, 97, 98, 99, 100, 101, 102]
theorem hexL_get : ∀ n, n < 16 → hexL[n]? = some (hexB n) := by decide
def plainB (c : UInt8) : Prop := 32 ≤ c.toNat ∧ c.toNat ≤ 126 ∧ c.toNat ≠ 34 ∧ c.toNat ≠ 92
instance (c : UInt8) : Decidable (plainB c) := by unfold plainB; infer_instance
def qB (c : UInt8) : List UInt8 := if plainB c then [c] else [92, hexB (c.toNat / 16), hexB (c.toNat % 16)]
def qL : List UInt8 → List UInt8
 | [] => []
 | c :: l => qB c ++ qL l
theorem qL_append : ∀ a b : List UInt8, qL (a ++ b) = qL a ++ qL b
 | [], _ => rfl
 | c :: a, b => by rw [List.cons_append, qL, qL, qL_append a b, List.append_assoc]
theorem qL_take_succ {l : List UInt8} {i : Nat} (h : i < l.length) : qL (l.take (i + 1)) = qL (l.take i) ++ qB l[i] := by
 rw [List.take_succ_eq_append_getElem h, qL_append]
 simp [qL]
theorem qB_len (c : UInt8) : (qB c).length ≤ 3 := by unfold qB; split <;> simp
theorem qL_len : ∀ l : List UInt8, (qL l).length ≤ 3 * l.length
 | [] => Nat.le_refl _
 | c :: l => by
   have h1 := qB_len c
   have h2 := qL_len l
   simp only [qL, List.length_append, List.length_cons]
   omega
def quoteS (s : ByteArray) : ByteArray := bs (34 :: (qL (ls s) ++ [34]))
theorem quoteS_size (s : ByteArray) : (quoteS s).size ≤ 3 * s.size + 2 := by
 have := qL_len (ls s)
 have h : (ls s).length = s.size := by show s.data.toList.length = s.data.size; simp
 unfold quoteS
 rw [bs_size]
 simp
 omega
set_option maxRecDepth 100000 in
theorem and15 : ∀ n : Nat, n < 256 → (IntKind.u8.wrap ((BitVec.ofInt IntKind.u8.bits (n : Int) &&& BitVec.ofInt IntKind.u8.bits 15).toNat : Int)) = ((n % 16 : Nat) : Int) := by decide
theorem shr4 (n : Nat) : ((n : Int)).fdiv (2 ^ min 4 IntKind.u8.bits) = ((n / 16 : Nat) : Int) := by
 rw [show (2 : Int) ^ min 4 IntKind.u8.bits = 16 from rfl, Int.fdiv_eq_ediv_of_nonneg _ (by decide)]; rfl
theorem and_eq {P : Program} {t : TypeId} {k : IntKind} {a b : Int} : aBin P .and t (.int k a) (.int k b) = some (.int k (k.wrap (BitVec.ofInt k.bits a &&& BitVec.ofInt k.bits b).toNat)) := by simp [aBin, aInt]
theorem hexIx {P : Program} {t : TypeId} (ht : tKind P t = some .str) (k : IntKind) {n : Nat} (h : n < 16) :
 aIndex P t (.string ⟨#[48, 49, 50, 51, 52, 53, 54, 55, 56, 57, 97, 98, 99, 100, 101, 102]⟩) (.int k (n : Int)) = some (.int .u8 (hexB n).toNat) := by
 have hd : (#[48, 49, 50, 51, 52, 53, 54, 55, 56, 57, 97, 98, 99, 100, 101, 102] : Array UInt8)[n]? = some (hexB n) := by
  have := hexL_get n h
  unfold hexL at this
  rw [← this]
  simp
 unfold aIndex
 simp only [ht]
 rw [if_pos (by omega), show ((n : Int)).toNat = n from Int.toNat_natCast n]
 simp only [hd, Option.map_some]
theorem opWord_le (op : Int) : (opWord op).size ≤ 6 := by
 have h : ∀ x ∈ opsL, x.1.size ≤ 6 := by decide
 unfold opWord opRow
 rw [List.getD_eq_getElem?_getD]
 cases hq : opsL[op.toNat]? with
 | none => decide
 | some x => exact h x (List.mem_of_getElem? hq)
def lineS (x : TIns) : ByteArray :=
 if opKd x.1 = 116 then opWord x.1 ++ ⟨#[32]⟩ ++ quoteS x.2.1 else if opKd x.1 = 0 then opWord x.1 else opWord x.1 ++ ⟨#[32]⟩ ++ decS x.2.2.toNat
theorem lineS_size (x : TIns) (h : x.2.1.size ≤ 2000) (hn : x.2.2 ≤ 2000) : (lineS x).size ≤ 6009 := by
 have h1 := opWord_le x.1
 have h2 := quoteS_size x.2.1
 have h3 := decS_size x.2.2.toNat
 have e1 : (⟨#[32]⟩ : ByteArray).size = 1 := rfl
 unfold lineS
 split
 ·rw [ByteArray.size_append, ByteArray.size_append]; omega
 ·split
  ·omega
  ·rw [ByteArray.size_append, ByteArray.size_append]; omega
def linesS : List TIns → ByteArray
 | [] => ⟨#[]⟩
 | x :: l => (lineS x ++ ⟨#[10]⟩) ++ linesS l
theorem linesS_append : ∀ a b : List TIns, linesS (a ++ b) = linesS a ++ linesS b
 | [], b => by
   rw [List.nil_append, linesS]
   apply ByteArray.ext
   simp
 | x :: a, b => by rw [List.cons_append, linesS, linesS, linesS_append a b, ← ba_assoc]
theorem linesS_size : ∀ (l : List TIns), (∀ x ∈ l, x.2.1.size ≤ 2000 ∧ x.2.2 ≤ 2000) → (linesS l).size ≤ 6010 * l.length
 | [], _ => by decide
 | x :: l, h => by
   have h1 := lineS_size x (h x (by simp)).1 (h x (by simp)).2
   have h2 := linesS_size l fun y hy => h y (by simp [hy])
   have e1 : (⟨#[10]⟩ : ByteArray).size = 1 := rfl
   rw [linesS, ByteArray.size_append, ByteArray.size_append, List.length_cons]
   omega
theorem linesS_snoc (l : List TIns) (x : TIns) : linesS (l ++ [x]) = linesS l ++ (lineS x ++ ⟨#[10]⟩) := by
 rw [linesS_append]
 congr 1
 rw [linesS, linesS]
 apply ByteArray.ext
 simp
def progS (p : TProgram) : ByteArray := if ProgOk p then linesS p else ⟨#[]⟩
end Go.AM
namespace Go.AM
open Go Go.RowKit
set_option linter.all false
def tagB (T : TypeId) : Nat := TAG + (2 * T + 1)
def tagU (U : TypeId) : Nat := TAG + 2 * U
inductive BldX (fC fS : FuncId) (T U : TypeId) (ro : Nat) (f : FuncId) (args : List Value) (A : AH) : ARes → AH → Prop
 | check {b : Nat} {p v : Value} (hf : f = fC) (ha : args = [.pointer (some ⟨b, 0, none⟩)]) (hb : A.get b = .cells [p, v] (tagB T)) (hp : p = .pointer none ∨ p = .pointer (some ⟨b, 0, none⟩)) (hro : ro ≤ b) :
  BldX fC fS T U ro f args A (.ret (.tuple #[])) (A.put b (.cells [.pointer (some ⟨b, 0, none⟩), v] (tagB T)))
 | str {b g : Nat} {p : Value} {s : ByteArray} (hf : f = fS) (ha : args = [.pointer (some ⟨b, 0, none⟩)]) (hb : A.get b = .cells [p, .slice (some ⟨g, 0, none⟩) s.size BIG] (tagB T)) (hg : A.get g = .cells (bytesOf s) (tagU U))
  (h1 : 1 ≤ s.size) (hlim : s.size < 4294967296) (hrg : ro ≤ g) : BldX fC fS T U ro f args A (.ret (.string s)) (A.put g .dead)
theorem AH.put_same {A : AH} {b : Nat} {o : AObj} (h : A.get b = o) : A.put b o = A := by
 cases A with
 | mk get size =>
   unfold AH.put
   congr 1
   funext x
   show (if x = b then o else get x) = get x
   by_cases hx : x = b
   ·rw [if_pos hx, hx]; exact h.symm
   ·rw [if_neg hx]
section
variable {P : Program} {ng ro base : Nat} {w0 : World} {m : Emb} {A : AH} {w : World}
theorem bld_block (hS : Sim ng ro base w0 m A w) {b : Nat} {p v : Value} {T : TypeId} (hb : A.get b = .cells [p, v] (tagB T)) :
 m.dom b ∧ m.s b = 0 ∧ ∃ p' v', w.heap[m.r b]? = some (.cells #[p', v'] T (0, 0)) ∧ VRel m p p' ∧ VRel m v v' ∧ ETag (m.e b) (tagB T) T (0, 0) (m.s b) 2 ∧ m.k b = 2 := by
 obtain ⟨hd, c', el, fz, g1, g2, g3, g4, g5, g6⟩ := hS.cells b _ _ hb
 obtain ⟨t1, rfl, t3, t4⟩ := g2.tag (Nat.le_add_right _ _)
 have ht := tag_odd T
 have hsz : c'.size = 2 := t4 ht.2
 rw [show (tagB T - TAG) / 2 = T from ht.1] at t1
 subst t1
 have hc : ∃ p' v', c' = #[p', v'] := by
  obtain ⟨l⟩ := c'
  match l, hsz with
  | [p', v'], _ => exact ⟨p', v', rfl⟩
 obtain ⟨p', v', rfl⟩ := hc
 obtain ⟨_, p2, k1, k2⟩ := g5 0 p rfl
 obtain ⟨_, v2, k3, k4⟩ := g5 1 v rfl
 rw [t3] at k1 k3
 simp at k1 k3
 subst k1 k3
 exact ⟨hd, t3, p', v', g1, k2, k4, g2, g3⟩
theorem ptr_same {b : Nat} {v : Value} (h : VRel m (.pointer (some ⟨b, 0, none⟩)) v) (hs : m.s b = 0) : v = .pointer (some ⟨m.r b, 0, none⟩) := by
 obtain ⟨_, _, e, rfl, _⟩ := h.ptr_inv
 cases e
 rw [hs]
theorem slice_big {b o n : Nat} {v : Value} (h : VRel m (.slice (some ⟨b, o, none⟩) n BIG) v) (h1 : 1 ≤ n) : ∃ c, v = .slice (some ⟨m.r b, m.s b + o, none⟩) n c ∧ n ≤ c ∧ c * m.e b + (m.s b + o) = m.k b := by
 cases h with
 | slEmpty => omega
 | slExact _ _ _ _ _ hc _ => exact absurd hc (Nat.lt_irrefl _)
 | slBig _ _ _ c _ hn hk => exact ⟨c, rfl, hn, hk⟩
theorem bld_sound {fC fS : FuncId} {T U : TypeId} (hfC : ∀ args w, (callFunc fC args).run P w = .ok (.enter fC args) w) (hfS : ∀ args w, (callFunc fS args).run P w = .ok (.enter fS args) w)
 (hfresh : ∀ (b : Nat) (w : World), w.cell? ⟨b, 0, none⟩ = some (.pointer none) → w.shape? b = some (T, 2) → w.frozen? ⟨b, 0, none⟩ = false →
   Calls P fC #[.pointer (some ⟨b, 0, none⟩)] w fun e w' => e = .returned (.tuple #[]) ∧ w' = w.setCell ⟨b, 0, none⟩ (.pointer (some ⟨b, 0, none⟩)))
 (hused : ∀ (b : Nat) (w : World), w.cell? ⟨b, 0, none⟩ = some (.pointer (some ⟨b, 0, none⟩)) → Calls P fC #[.pointer (some ⟨b, 0, none⟩)] w fun e w' => e = .returned (.tuple #[]) ∧ w' = w)
 (hstr : ∀ (b g cap : Nat) (p : Value) (cur : Array Value) (l : List UInt8) (w : World), w.heap[b]? = some (.cells #[p, .slice (some ⟨g, 0, none⟩) l.length cap] T (0, 0)) → w.heap[g]? = some (.cells cur U (0, 0)) → cap ≠ 0 → l.length ≤ cur.size → l.length ≤ 9223372036854775807 → l ≠ [] →
   (∀ (j : Nat) (x : UInt8), l[j]? = some x → cur[j]? = some (Value.int .u8 x.toNat)) → Calls P fS #[.pointer (some ⟨b, 0, none⟩)] w fun e w' => e = .returned (.string ⟨l.toArray⟩) ∧ w' = w.drew.freeze ⟨g, 0, none⟩ l.length)
 {f : FuncId} {args : List Value} {r : ARes} {A' : AH} (h : BldX fC fS T U ro f args A r A') : CallSound P ng ro base w0 f args A r A' ∧ A.size ≤ A'.size := by
 cases h with
 | @check b p v hf ha hb hp hro =>
   subst hf ha
   refine ⟨fun m w args' hS hv => ?_, Nat.le_refl _⟩
   cases hv with
   | cons _ v1 _ l1 g1 hv =>
   cases hv
   obtain ⟨hd, hs, p', v', hh, hvp, hvv, het, hk⟩ := bld_block hS hb
   have hv1 := ptr_same g1 hs
   subst hv1
   left
   refine ⟨hfC _ _, ?_⟩
   have hcell : w.cell? ⟨m.r b, 0, none⟩ = some p' := by rw [cell_row hh]; rfl
   rcases hp with rfl | rfl
   ·cases hvp
    refine (hfresh (m.r b) w hcell (by simp [World.shape?, hh]) (by rw [frozen_row hh]; rfl)).mono ?_
    rintro e w' ⟨rfl, rfl⟩
    refine ⟨m, ?_, .tuple _ _ .nil⟩
    refine Step.put hS (by rw [hb]; simp) hro (heap_setCells [.pointer (some ⟨m.r b, 0, none⟩)] w (m.r b) 0 _ T (0, 0) hh) ?_ (fun es h => by cases h)
    intro c2 e2 h2
    cases h2
    refine ⟨_, T, (0, 0), rfl, het, by rw [hk]; rfl, by rw [hs]; exact Nat.le_refl _, ?_, freeRow_zero⟩
    rw [hs]
    intro i u hu
    match i, hu with
    | 0, hu => cases hu; exact ⟨rfl, _, rfl, by have := VRel.ptr (m := m) b 0 hd; rwa [hs] at this⟩
    | 1, hu => cases hu; obtain ⟨k1, u', k2, k3⟩ := (hS.cells b _ _ hb).2.choose_spec.choose_spec.choose_spec.2.2.2.2.1 1 v rfl; exact ⟨k1, v', rfl, hvv⟩
   ·have hp2 := ptr_same hvp hs
    subst hp2
    refine (hused (m.r b) w hcell).mono ?_
    rintro e w' ⟨rfl, rfl⟩
    refine ⟨m, ?_, .tuple _ _ .nil⟩
    rw [AH.put_same hb]
    exact Step.refl hS
 | @str b g p s hf ha hb hg h1 hlim hrg =>
   subst hf ha
   refine ⟨fun m w args' hS hv => ?_, Nat.le_refl _⟩
   cases hv with
   | cons _ v1 _ l1 g1 hv =>
   cases hv
   obtain ⟨hd, hs, p', v', hh, hvp, hvv, het, hk⟩ := bld_block hS hb
   have hv1 := ptr_same g1 hs
   subst hv1
   obtain ⟨_, c', el, fz, k1, k2, k3, k4, k5, k6⟩ := hS.cells g _ _ hg
   obtain ⟨t1, rfl, t3, _⟩ := k2.tag (Nat.le_add_right _ _)
   rw [show (tagU U - TAG) / 2 = U from (tag_even U).1] at t1
   subst t1
   have hesz : m.e g = 1 := k2.sz.trans (esz_tag _)
   obtain ⟨cap, rfl, hn, hk2⟩ := slice_big hvv h1
   rw [t3] at hh k4 k5
   rw [t3, hesz] at hk2
   have hll : s.data.toList.length = s.size := by show _ = s.data.size; simp
   rw [bytesOf_length] at k4
   left
   refine ⟨hfS _ _, ?_⟩
   have hcur : ∀ (j : Nat) (x : UInt8), s.data.toList[j]? = some x → c'[j]? = some (Value.int .u8 x.toNat) := fun j x hj => by
    have hb2 : (bytesOf s)[j]? = some (Value.int .u8 x.toNat) := by unfold bytesOf; rw [List.getElem?_map, hj]; rfl
    obtain ⟨_, v', h2, h3⟩ := k5 j _ hb2
    cases h3
    rwa [Nat.zero_add] at h2
   refine (hstr (m.r b) (m.r g) cap p' c' s.data.toList w (by rw [hll]; exact hh) k1 (by omega) (by omega) (by omega) (fun h => by rw [h] at hll; simp at hll; omega) hcur).mono ?_
   rintro e w' ⟨rfl, rfl⟩
   refine ⟨m, ?_, ?_⟩
   ·have hl : A.get g ≠ .dead := by rw [hg]; simp
    have hone : ∃ ob, OneBlock (m.r g) ob w (w.drew.freeze ⟨m.r g, 0, none⟩ s.data.toList.length) := by
     unfold World.freeze
     split
     ·exact ⟨_, rfl, rfl, rfl, rfl, k1, fun _ _ => rfl⟩
     ·have hlt := hS.lt hl
      refine ⟨_, rfl, rfl, rfl, by show (Array.modify _ _ _).size = _; rw [Array.size_modify]; rfl, Array.getElem?_eq_getElem (by show _ < (Array.modify _ _ _).size; rw [Array.size_modify]; exact hlt), fun k hk => ?_⟩
      simp only [Array.getElem?_modify]
      rw [if_neg (fun e => hk e.symm)]
      rfl
    obtain ⟨ob, hone⟩ := hone
    exact Step.put hS hl hrg hone (fun c e h => by cases h) (fun es h => by cases h)
   ·have : (⟨s.data.toList.toArray⟩ : ByteArray) = s := by cases s; simp
    rw [this]
    exact .string s
end
end Go.AM
namespace Go.AM
open Go
set_option linter.all false
def BldV (T U : TypeId) (lo : Nat) (A : AH) (b : Nat) (F : List Nat) (s : ByteArray) : Prop :=
 b < A.size ∧ ∃ p v : Value, A.get b = .cells [p, v] (tagB T) ∧ (p = .pointer none ∨ p = .pointer (some ⟨b, 0, none⟩)) ∧
   ((s = ⟨#[]⟩ ∧ v = Sl.nil.v ∧ F = []) ∨ ∃ g, v = (Sl.mk false g 0 s.size BIG).v ∧ A.get g = .cells (bytesOf s) (tagU U) ∧ lo ≤ g ∧ g < A.size ∧ g ≠ b ∧ F = [g] ∧ 1 ≤ s.size)
section
variable {P : Program} {ro lo b : Nat} {A A' : AH} {t T U : TypeId} {F : List Nat} {s : ByteArray}
theorem BldV.start (hb : b < A.size) (hg : A.get b = .cells [.pointer none, Sl.nil.v] (tagB T)) : BldV T U lo A b [] ⟨#[]⟩ := ⟨hb, _, _, hg, .inl rfl, .inl ⟨rfl, rfl, rfl⟩⟩
theorem BldV.frame (h : BldV T U lo A b F s) (hz : A.size ≤ A'.size) (hb : A'.get b = A.get b) (hF : ∀ x ∈ F, A'.get x = A.get x) : BldV T U lo A' b F s := by
 obtain ⟨h1, p, v, h2, h3, h4⟩ := h
 refine ⟨by omega, p, v, hb.trans h2, h3, h4.imp id ?_⟩
 rintro ⟨g, k1, k2, k3, k4, k5, rfl, k7⟩
 exact ⟨g, k1, (hF g (by simp)).trans k2, k3, by omega, k5, rfl, k7⟩
theorem BldV.ext (h : BldV T U lo A b F s) (hE : Ext A A') : BldV T U lo A' b F s := by
 refine h.frame hE.size (hE.get b h.1) fun x hx => ?_
 obtain ⟨_, p, v, _, _, h4⟩ := h
 rcases h4 with ⟨_, _, rfl⟩ | ⟨g, _, _, _, k4, _, rfl, _⟩
 ·cases hx
 ·obtain rfl : x = g := by simpa using hx
  exact hE.get _ k4
theorem BldV.foot (h : BldV T U lo A b F s) : ∀ x ∈ F, lo ≤ x ∧ x < A.size ∧ x ≠ b := by
 intro x hx
 obtain ⟨_, p, v, _, _, h4⟩ := h
 rcases h4 with ⟨_, _, rfl⟩ | ⟨g, _, _, k3, k4, k5, rfl, _⟩
 ·cases hx
 ·obtain rfl : x = g := by simpa using hx
  exact ⟨k3, k4, k5⟩
theorem app_tag0 (ht : tElemSize P t = some 1) : aAppend P ro A t Sl.nil.v (.string ⟨#[]⟩) = some (Sl.nil.v, A) := by
 rw [Sl.v_nil]
 unfold aAppend
 simp only [ht, aSource, if_true]
 rw [if_pos (by decide), if_neg (by decide), if_pos (by decide)]
theorem app_tagN (ht : tElemSize P t = some 1) (hu : tElem P t = some U) (h1 : 1 ≤ s.size) (hl : s.size < 4294967296) :
 aAppend P ro A t Sl.nil.v (.string s) = some ((Sl.mk false A.size 0 s.size BIG).v, A.new (.cells (bytesOf s) (tagU U))) := by
 have e : (Sl.mk false A.size 0 s.size BIG).v = .slice (some ⟨A.size, 0, none⟩) s.size BIG := rfl
 rw [Sl.v_nil, e]
 unfold aAppend appE
 simp only [ht, aSource, if_true, hu]
 rw [if_pos (by unfold LIM; omega), if_neg (by decide), if_neg (by omega)]
 rfl
theorem app_tagS {g : Nat} {s0 : ByteArray} (ht : tElemSize P t = some 1) (hu : tElem P t = some U) (hg : A.get g = .cells (bytesOf s0) (tagU U)) (hro : ro ≤ g) (hl : s0.size + s.size < 4294967296) :
 aAppend P ro A t (Sl.mk false g 0 s0.size BIG).v (.string s) = some ((Sl.mk false A.size 0 (s0 ++ s).size BIG).v, (A.put g .dead).new (.cells (bytesOf (s0 ++ s)) (tagU U))) := by
 have e : (Sl.mk false A.size 0 (s0 ++ s).size BIG).v = .slice (some ⟨A.size, 0, none⟩) (s0.size + s.size) BIG := by rw [ByteArray.size_append]; rfl
 have hrow : aRow A ⟨g, 0, none⟩ (s0.size * 1) = some (bytesOf s0) := by
  rw [aRow_get hg (by rw [bytesOf_length]; omega), List.drop_zero, Nat.mul_one, List.take_of_length_le (by rw [bytesOf_length]; exact Nat.le_refl _)]
 have hb2 : bytesOf (s0 ++ s) = bytesOf s0 ++ bytesOf s := by unfold bytesOf; simp
 have ht2 : tagHere P t 1 ⟨g, 0, none⟩ (tagU U) := ⟨rfl, rfl, by rw [hu]; rfl⟩
 rw [Sl.v_mk, e, hb2]
 unfold aAppend
 simp only [ht, aSource, if_true]
 rw [if_pos (by unfold LIM; omega), if_neg (Nat.lt_irrefl _), if_pos ⟨trivial, hro⟩, hrow]
 simp only [hg]
 rw [if_pos (.inr ht2)]
end
end Go.AM
