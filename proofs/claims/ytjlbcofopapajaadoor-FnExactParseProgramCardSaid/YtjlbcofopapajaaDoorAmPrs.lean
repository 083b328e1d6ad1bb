import Derived.Test.YtjlbcofopapajaaDoorAmBld
import Derived.Lib.Bytealg
import Derived.Lib.AtoiAll
import Derived.Test.YtjlbcofopapajaaDoorAmSD
import Derived.Test.YtjlbcofopapajaaDoorAmTX
import Derived.Test.YtjlbcofopapajaaDoorAmM
import Derived.Test.YtjlbcofopapajaaDoorAmSort
import Derived.Test.YtjlbcofopapajaaDoorAmRun
import Derived.LaidLaws
namespace Go.AM
open Go
set_option linter.all false
theorem ix_cases : ∀ (l : List UInt8) (c : UInt8), (Lib.indexByte l c = -1 ∧ c ∉ l) ∨ ∃ a b, l = a ++ c :: b ∧ c ∉ a ∧ Lib.indexByte l c = (a.length : Nat)
 | [], c => .inl ⟨rfl, by simp⟩
 | x :: l, c => by
   unfold Lib.indexByte
   by_cases hx : x = c
   ·subst hx
    exact .inr ⟨[], l, rfl, by simp, by simp⟩
   ·have hb : (x == c) = false := by simpa using hx
    rw [hb]
    simp only [Bool.false_eq_true, if_false]
    rcases ix_cases l c with ⟨h1, h2⟩ | ⟨a, b, rfl, h2, h3⟩
    ·rw [h1]
     exact .inl ⟨rfl, by simp only [List.mem_cons, not_or]; exact ⟨fun e => hx e.symm, h2⟩⟩
    ·refine .inr ⟨x :: a, b, rfl, by simp only [List.mem_cons, not_or]; exact ⟨fun e => hx e.symm, h2⟩, ?_⟩
     rw [h3]
     have : ((a.length : Int) == -1) = false := by
      rw [beq_eq_false_iff_ne]
      omega
     rw [this]
     simp
def splitL : List UInt8 → List (List UInt8)
 | [] => [[]]
 | c :: l => if c = 10 then [] :: splitL l else match splitL l with
   | [] => [[c]]
   | x :: r => (c :: x) :: r
theorem splitL_ne : ∀ l, splitL l ≠ []
 | [] => by simp [splitL]
 | c :: l => by
   unfold splitL
   split
   ·simp
   ·split <;> simp
theorem splitL_cut : ∀ {a : List UInt8} (b : List UInt8), 10 ∉ a → splitL (a ++ 10 :: b) = a :: splitL b
 | [], b, _ => by simp [splitL]
 | c :: a, b, h => by
   simp only [List.mem_cons, not_or] at h
   rw [List.cons_append, splitL, if_neg (fun e => h.1 e.symm), splitL_cut b h.2]
theorem splitL_one : ∀ {a : List UInt8}, 10 ∉ a → splitL a = [a]
 | [], _ => rfl
 | c :: a, h => by
   simp only [List.mem_cons, not_or] at h
   rw [splitL, if_neg (fun e => h.1 e.symm), splitL_one h.2]
theorem splitL_len : ∀ l : List UInt8, (splitL l).length = l.count 10 + 1
 | [] => rfl
 | c :: l => by
   have ih := splitL_len l
   unfold splitL
   by_cases h : c = 10
   ·subst h
    rw [if_pos rfl, List.length_cons, ih, List.count_cons_self]
   ·rw [if_neg h, List.count_cons_of_ne (by simpa using h)]
    cases hq : splitL l with
    | nil => exact absurd hq (splitL_ne l)
    | cons x r => rw [hq] at ih; simpa using ih
theorem splitL_size : ∀ (l : List UInt8), ∀ x ∈ splitL l, x.length ≤ l.length
 | [], x, h => by simp [splitL] at h; simp [h]
 | c :: l, x, h => by
   have ih := splitL_size l
   unfold splitL at h
   by_cases hc : c = 10
   ·rw [if_pos hc] at h
    rcases List.mem_cons.1 h with rfl | h
    ·simp
    ·have := ih x h; simp only [List.length_cons]; omega
   ·rw [if_neg hc] at h
    cases hq : splitL l with
    | nil => exact absurd hq (splitL_ne l)
    | cons y r =>
      rw [hq] at h ih
      rcases List.mem_cons.1 h with rfl | h
      ·have := ih y (by simp); simp only [List.length_cons]; omega
      ·have := ih x (by simp [h]); simp only [List.length_cons]; omega
def splitS (s : ByteArray) : List ByteArray := (splitL (ls s)).map bs
theorem splitS_ne (s : ByteArray) : 1 ≤ (splitS s).length := by
 unfold splitS
 rw [List.length_map, splitL_len]
 omega
theorem splitS_len (s : ByteArray) : (splitS s).length ≤ s.size + 1 := by
 unfold splitS
 rw [List.length_map, splitL_len, ← ls_length]
 have := List.count_le_length (a := (10 : UInt8)) (l := ls s)
 omega
theorem splitS_size {s x : ByteArray} (h : x ∈ splitS s) : x.size ≤ s.size := by
 obtain ⟨y, hy, rfl⟩ := List.mem_map.1 h
 have := splitL_size _ y hy
 rw [bs_size]
 rwa [ls_length] at this
theorem quote_size (t : ByteArray) : (quoteS t).size = (qL (ls t)).length + 2 := by unfold quoteS; rw [bs_size]; simp
theorem ls_quote (t : ByteArray) : ls (quoteS t) = 34 :: (qL (ls t) ++ [34]) := by unfold quoteS; rw [ls_bs]
theorem bget_of {s : ByteArray} {i : Nat} {c : UInt8} (h : (ls s)[i]? = some c) : i < s.size ∧ bget s i = c := by
 obtain ⟨hi, e⟩ := List.getElem?_eq_some_iff.1 h
 rw [ls_length] at hi
 exact ⟨hi, by rw [← bget_ls s i hi]; exact e⟩
theorem quote_mid {t : ByteArray} {i : Nat} (hi : i < (ls t).length) (j : Nat) (hj : j < (qB (ls t)[i]).length) :
 1 + (qL ((ls t).take i)).length + j < (quoteS t).size - 1 ∧ bget (quoteS t) (1 + (qL ((ls t).take i)).length + j) = (qB (ls t)[i])[j] := by
 have e1 : qL (ls t) = qL ((ls t).take i) ++ (qB (ls t)[i] ++ qL ((ls t).drop (i + 1))) := by
  conv => lhs; rw [← List.take_append_drop i (ls t), qL_append, List.drop_eq_getElem_cons hi]
  rfl
 have e2 : (ls (quoteS t))[1 + (qL ((ls t).take i)).length + j]? = some (qB (ls t)[i])[j] := by
  rw [ls_quote, e1, show 1 + (qL ((ls t).take i)).length + j = (qL ((ls t).take i)).length + j + 1 from by omega, List.getElem?_cons_succ, List.append_assoc, List.getElem?_append_right (by omega), Nat.add_sub_cancel_left, List.append_assoc, List.getElem?_append_left hj, List.getElem?_eq_getElem hj]
 obtain ⟨_, e3⟩ := bget_of e2
 refine ⟨?_, e3⟩
 rw [quote_size, e1]
 simp only [List.length_append]
 omega
theorem quote_0 (t : ByteArray) : bget (quoteS t) 0 = 34 := (bget_of (s := quoteS t) (i := 0) (c := 34) (by rw [ls_quote]; rfl)).2
theorem quote_last (t : ByteArray) : bget (quoteS t) ((quoteS t).size - 1) = 34 := by
 refine (bget_of ?_).2
 rw [quote_size, ls_quote, show (qL (ls t)).length + 2 - 1 = (qL (ls t)).length + 1 from rfl, List.getElem?_cons_succ, List.getElem?_append_right (Nat.le_refl _), Nat.sub_self]
 rfl
def hexV (c : UInt8) : Int := Lib.indexByte hexL c
theorem hexV_ok : ∀ n : Nat, n < 16 → hexV (hexB n) = n := by decide
theorem hexV_rng : ∀ c : UInt8, -1 ≤ hexV c ∧ hexV c ≤ 15 := by
 have h : ∀ n : Nat, n < 256 → -1 ≤ hexV (UInt8.ofNat n) ∧ hexV (UInt8.ofNat n) ≤ 15 := by decide +kernel
 intro c
 have := h c.toNat c.toNat_lt
 rwa [UInt8.ofNat_toNat] at this
theorem quote_step {t : ByteArray} {i : Nat} (hi : i < (ls t).length) :
 let p := 1 + (qL ((ls t).take i)).length
 (bget (quoteS t) p ≠ 92 ∧ bget (quoteS t) p = (ls t)[i] ∧ p < (quoteS t).size - 1 ∧ 1 + (qL ((ls t).take (i + 1))).length = p + 1) ∨
 (bget (quoteS t) p = 92 ∧ p + 2 < (quoteS t).size - 1 ∧ 0 ≤ hexV (bget (quoteS t) (p + 1)) ∧ 0 ≤ hexV (bget (quoteS t) (p + 2)) ∧ 16 * hexV (bget (quoteS t) (p + 1)) + hexV (bget (quoteS t) (p + 2)) = (ls t)[i].toNat ∧ 1 + (qL ((ls t).take (i + 1))).length = p + 3) := by
 intro p
 have hq := quote_mid hi
 have hlen : (qL ((ls t).take (i + 1))).length = (qL ((ls t).take i)).length + (qB (ls t)[i]).length := by rw [qL_take_succ hi, List.length_append]
 generalize (ls t)[i] = c at hq hlen ⊢
 have c256 := c.toNat_lt
 by_cases hp : plainB c
 ·have e : qB c = [c] := if_pos hp
  rw [e] at hlen
  obtain ⟨a1, a2⟩ := hq 0 (by rw [e]; exact Nat.zero_lt_one)
  simp only [e, List.getElem_cons_zero, Nat.add_zero] at a2 a1
  refine .inl ⟨?_, a2, a1, by rw [hlen]; simp only [List.length_singleton]; omega⟩
  show bget (quoteS t) (1 + (qL ((ls t).take i)).length) ≠ 92
  rw [a2]
  intro h
  rw [h] at hp
  exact hp.2.2.2 rfl
 ·have e : qB c = [92, hexB (c.toNat / 16), hexB (c.toNat % 16)] := if_neg hp
  rw [e] at hlen
  obtain ⟨_, a2⟩ := hq 0 (by rw [e]; exact (by decide : 0 < 3))
  obtain ⟨_, b2⟩ := hq 1 (by rw [e]; exact (by decide : 1 < 3))
  obtain ⟨c1, c2⟩ := hq 2 (by rw [e]; exact (by decide : 2 < 3))
  simp only [e, List.getElem_cons_zero, List.getElem_cons_succ, Nat.add_zero] at a2 b2 c2
  have h1 := hexV_ok (c.toNat / 16) (by omega)
  have h2 := hexV_ok (c.toNat % 16) (by omega)
  refine .inr ⟨a2, c1, ?_, ?_, ?_, by rw [hlen]; simp only [List.length_cons, List.length_nil]; omega⟩
  ·show 0 ≤ hexV (bget (quoteS t) (1 + (qL ((ls t).take i)).length + 1))
   rw [b2, h1]; omega
  ·show 0 ≤ hexV (bget (quoteS t) (1 + (qL ((ls t).take i)).length + 2))
   rw [c2, h2]; omega
  ·show 16 * hexV (bget (quoteS t) (1 + (qL ((ls t).take i)).length + 1)) + hexV (bget (quoteS t) (1 + (qL ((ls t).take i)).length + 2)) = _
   rw [b2, c2, h1, h2]; omega
theorem quote_end (t : ByteArray) : 1 + (qL ((ls t).take (ls t).length)).length = (quoteS t).size - 1 := by rw [List.take_length, quote_size]; omega
def dg (n : Nat) : UInt8 := UInt8.ofNat (48 + n)
def digL (n : Nat) : List UInt8 := if n < 10 then [dg n] else if n < 100 then [dg (n / 10), dg (n % 10)] else if n < 1000 then [dg (n / 100), dg (n / 10 % 10), dg (n % 10)] else [dg (n / 1000), dg (n / 100 % 10), dg (n / 10 % 10), dg (n % 10)]
theorem decS_digL {n : Nat} (h : n < 10000) : ls (decS n) = digL n := by
 unfold digL
 by_cases h1 : n < 10
 ·rw [if_pos h1, decS_lt h1]; rfl
 rw [if_neg h1, decS_ge h1]
 by_cases h2 : n < 100
 ·rw [if_pos h2, decS_lt (by omega)]; rfl
 rw [if_neg h2, decS_ge (by omega : ¬ n / 10 < 10)]
 by_cases h3 : n < 1000
 ·rw [if_pos h3, decS_lt (by omega), show n / 10 / 10 = n / 100 by omega]; rfl
 rw [if_neg h3, decS_ge (by omega : ¬ n / 10 / 10 < 10), decS_lt (by omega), show n / 10 / 10 / 10 = n / 1000 by omega, show n / 10 / 10 = n / 100 by omega]; rfl
def valD (l : List UInt8) : Int := l.foldl (fun a c => a * 10 + c.toNat - 48) 0
theorem valD_snoc (l : List UInt8) (c : UInt8) : valD (l ++ [c]) = valD l * 10 + c.toNat - 48 := by unfold valD; rw [List.foldl_append]; rfl
theorem valD_take_succ {l : List UInt8} {i : Nat} (h : i < l.length) : valD (l.take (i + 1)) = valD (l.take i) * 10 + l[i].toNat - 48 := by rw [List.take_succ_eq_append_getElem h, valD_snoc]
set_option maxRecDepth 100000 in
theorem digL_all : ∀ n : Nat, n < 2001 → valD (digL n) = n ∧ Lib.atoiAll (digL n) = .ok (n : Int) ∧ (digL n).length ≤ 4 ∧ (∀ c ∈ digL n, c ≠ 32) := by decide +kernel
theorem dec_val {n : Nat} (h : n ≤ 2000) : valD (ls (decS n)) = n := by rw [decS_digL (by omega)]; exact (digL_all n (by omega)).1
theorem dec_atoi {n : Nat} (h : n ≤ 2000) : Lib.atoiAll (ls (decS n)) = .ok (n : Int) := by rw [decS_digL (by omega)]; exact (digL_all n (by omega)).2.1
theorem dec_len {n : Nat} (h : n ≤ 2000) : (decS n).size ≤ 4 := by rw [← ls_length, decS_digL (by omega)]; exact (digL_all n (by omega)).2.2.1
theorem dec_inj {a b : Nat} (ha : a ≤ 2000) (hb : b ≤ 2000) (h : decS a = decS b) : a = b := by
 have := dec_val ha
 rw [h, dec_val hb] at this
 omega
theorem valD_bound : ∀ (k : Nat) (l : List UInt8), l.length = k → -(23 * (10 ^ k : Nat) - 23 : Int) ≤ valD l ∧ valD l ≤ (23 * (10 ^ k : Nat) - 23 : Int)
 | 0, l, h => by
   cases List.eq_nil_of_length_eq_zero h
   exact ⟨by decide, by decide⟩
 | k + 1, l, h => by
   have hne : l ≠ [] := by intro e; rw [e] at h; simp at h
   rw [← List.dropLast_concat_getLast hne, valD_snoc]
   have := valD_bound k l.dropLast (by rw [List.length_dropLast, h]; rfl)
   have hc := (l.getLast hne).toNat_lt
   rw [Nat.pow_succ]
   omega
theorem valD_small {l : List UInt8} (h : l.length ≤ 6) : -23000000 ≤ valD l ∧ valD l ≤ 23000000 := by
 have h1 := valD_bound l.length l rfl
 have h2 : 10 ^ l.length ≤ 10 ^ 6 := Nat.pow_le_pow_right (by decide) h
 omega
theorem hexB_inj {a b : Nat} (ha : a < 16) (hb : b < 16) (h : hexB a = hexB b) : a = b := by
 have h1 := hexV_ok a ha
 rw [h, hexV_ok b hb] at h1
 omega
theorem qL_inj : ∀ {a b : List UInt8}, qL a ++ [34] = qL b ++ [34] → a = b
 | [], [], _ => rfl
 | [], d :: b, h => by
   simp only [qL, List.nil_append] at h
   unfold qB at h
   split at h
   ·rename_i hd
    simp only [List.cons_append, List.nil_append, List.cons.injEq] at h
    exact absurd (congrArg UInt8.toNat h.1).symm hd.2.2.1
   ·simp at h
 | c :: a, [], h => by
   simp only [qL, List.nil_append] at h
   unfold qB at h
   split at h
   ·rename_i hd
    simp only [List.cons_append, List.nil_append, List.cons.injEq] at h
    exact absurd (congrArg UInt8.toNat h.1) hd.2.2.1
   ·simp at h
 | c :: a, d :: b, h => by
   simp only [qL, List.append_assoc] at h
   unfold qB at h
   have hc := c.toNat_lt
   have hd := d.toNat_lt
   split at h <;> split at h <;> rename_i k1 k2 <;> simp only [List.cons_append, List.nil_append, List.cons.injEq] at h
   ·rw [h.1, qL_inj h.2]
   ·exact absurd (congrArg UInt8.toNat h.1) k1.2.2.2
   ·exact absurd (congrArg UInt8.toNat h.1).symm k2.2.2.2
   ·have e1 := hexB_inj (by omega) (by omega) h.2.1
    have e2 := hexB_inj (by omega) (by omega) h.2.2.1
    have : c = d := UInt8.toNat_inj.1 (by omega)
    rw [this, qL_inj h.2.2.2]
theorem quote_inj {a b : ByteArray} (h : quoteS a = quoteS b) : a = b := by
 have h1 : ls (quoteS a) = ls (quoteS b) := by rw [h]
 rw [ls_quote, ls_quote] at h1
 have := qL_inj (List.cons.inj h1).2
 rw [← bs_ls a, ← bs_ls b, this]
def cutL : List UInt8 → Option (List UInt8 × List UInt8)
 | [] => none
 | c :: l => if c = 32 then some ([], l) else (cutL l).map fun p => (c :: p.1, p.2)
theorem cutL_at : ∀ {a : List UInt8} (b : List UInt8), 32 ∉ a → cutL (a ++ 32 :: b) = some (a, b)
 | [], b, _ => by simp [cutL]
 | c :: a, b, h => by
   simp only [List.mem_cons, not_or] at h
   rw [List.cons_append, cutL, if_neg (fun e => h.1 e.symm), cutL_at b h.2]
   rfl
theorem cutL_none : ∀ {a : List UInt8}, 32 ∉ a → cutL a = none
 | [], _ => rfl
 | c :: a, h => by
   simp only [List.mem_cons, not_or] at h
   rw [cutL, if_neg (fun e => h.1 e.symm), cutL_none h.2]
   rfl
def cutS (s : ByteArray) : ByteArray × ByteArray × Bool := match cutL (ls s) with
 | none => (s, ⟨#[]⟩, false)
 | some p => (bs p.1, bs p.2, true)
theorem ls_app (a b : ByteArray) : ls (a ++ b) = ls a ++ ls b := by unfold ls; simp
theorem cutS_at {a b : ByteArray} (h : 32 ∉ ls a) : cutS (a ++ ⟨#[32]⟩ ++ b) = (a, b, true) := by
 have e : ls (a ++ ⟨#[32]⟩ ++ b) = ls a ++ 32 :: ls b := by rw [ls_app, ls_app]; simp [ls]
 unfold cutS
 rw [e, cutL_at _ h]
theorem cutS_none {a : ByteArray} (h : 32 ∉ ls a) : cutS a = (a, ⟨#[]⟩, false) := by
 unfold cutS
 rw [cutL_none h]
theorem words_ok : (∀ i : Nat, i < 16 → 32 ∉ (opsL.getD i (⟨#[]⟩, 0, 0, 0)).1.data.toList) ∧ ∀ i : Nat, i < 16 → ∀ j : Nat, j < 16 → (opsL.getD i (⟨#[]⟩, 0, 0, 0)).1.data.toList = (opsL.getD j (⟨#[]⟩, 0, 0, 0)).1.data.toList → i = j := by decide
theorem word_no32 {op : Int} (h1 : 1 ≤ op) (h2 : op ≤ 15) : 32 ∉ ls (opWord op) := words_ok.1 op.toNat (by omega)
theorem word_inj {a b : Int} (h1 : 1 ≤ a) (h2 : a ≤ 15) (h3 : 1 ≤ b) (h4 : b ≤ 15) (h : opWord a = opWord b) : a = b := by
 have := words_ok.2 a.toNat (by omega) b.toNat (by omega) (congrArg (·.data.toList) h)
 omega
def restS (x : TIns) : ByteArray := if opKd x.1 = 116 then quoteS x.2.1 else if opKd x.1 = 0 then ⟨#[]⟩ else decS x.2.2.toNat
theorem line_cut {x : TIns} (h : InsOk x) : (cutS (lineS x)).1 = opWord x.1 ∧ (cutS (lineS x)).2.1 = restS x := by
 have hw := word_no32 h.1 h.2.1
 unfold lineS restS
 split
 ·rw [cutS_at hw]; exact ⟨rfl, rfl⟩
 ·split
  ·rw [cutS_none hw]; exact ⟨rfl, rfl⟩
  ·rw [cutS_at hw]; exact ⟨rfl, rfl⟩
theorem ins_num {x : TIns} (h : InsOk x) : 0 ≤ x.2.2 ∧ x.2.2 ≤ 2000 ∧ (opKd x.1 = 116 → x.2.2 = 0) ∧ (opKd x.1 = 0 → x.2.2 = 0) ∧ (opKd x.1 ≠ 116 → x.2.1 = ⟨#[]⟩) := by
 obtain ⟨_, _, _, h0, hm, ht⟩ := h
 have hm2 := mostN_le2 x.1
 refine ⟨h0, by omega, fun hk => ?_, fun hk => ?_, fun hk => ht.resolve_left hk⟩
 ·have : mostN x.1 = 0 := by unfold mostN; rw [hk]; decide
  omega
 ·have : mostN x.1 = 0 := by unfold mostN; rw [hk]; decide
  omega
theorem line_inj {x y : TIns} (hx : InsOk x) (hy : InsOk y) (h : lineS x = lineS y) : x = y := by
 obtain ⟨a1, a2⟩ := line_cut hx
 obtain ⟨b1, b2⟩ := line_cut hy
 rw [h] at a1 a2
 have ho : x.1 = y.1 := word_inj hx.1 hx.2.1 hy.1 hy.2.1 (a1.symm.trans b1)
 have hr : restS x = restS y := a2.symm.trans b2
 obtain ⟨u1, u2, u3, u4, u5⟩ := ins_num hx
 obtain ⟨v1, v2, v3, v4, v5⟩ := ins_num hy
 obtain ⟨xo, xt, xn⟩ := x
 obtain ⟨yo, yt, yn⟩ := y
 simp only at ho u1 u2 u3 u4 u5 v1 v2 v3 v4 v5
 subst ho
 unfold restS at hr
 simp only at hr
 by_cases k : opKd xo = 116
 ·rw [if_pos k, if_pos k] at hr
  rw [quote_inj hr, u3 k, v3 k]
 ·rw [if_neg k, if_neg k] at hr
  rw [u5 k, v5 k]
  by_cases k0 : opKd xo = 0
  ·rw [u4 k0, v4 k0]
  ·rw [if_neg k0, if_neg k0] at hr
   have := dec_inj (by omega) (by omega) hr
   rw [show xn = yn by omega]
open Classical in
noncomputable def rdS (s : ByteArray) : Option TIns := if h : ∃ x, InsOk x ∧ lineS x = s then some h.choose else none
theorem rdS_some {s : ByteArray} {x : TIns} (h1 : InsOk x) (h2 : lineS x = s) : rdS s = some x := by
 unfold rdS
 have h : ∃ x, InsOk x ∧ lineS x = s := ⟨x, h1, h2⟩
 rw [dif_pos h, line_inj h.choose_spec.1 h1 (h.choose_spec.2.trans h2.symm)]
theorem rdS_none {s : ByteArray} (h : ∀ x, InsOk x → lineS x ≠ s) : rdS s = none := dif_neg fun ⟨x, h1, h2⟩ => h x h1 h2
theorem rdS_cases (s : ByteArray) : (∃ x, rdS s = some x ∧ InsOk x ∧ lineS x = s) ∨ (rdS s = none ∧ ∀ x, InsOk x → lineS x ≠ s) := by
 by_cases h : ∃ x, InsOk x ∧ lineS x = s
 ·obtain ⟨x, h1, h2⟩ := h
  exact .inl ⟨x, rdS_some h1 h2, h1, h2⟩
 ·exact .inr ⟨dif_neg h, fun x h1 h2 => h ⟨x, h1, h2⟩⟩
noncomputable def badN : List ByteArray → Nat
 | [] => 0
 | s :: l => match rdS s with
   | none => 0
   | some _ => badN l + 1
theorem badN_eq : ∀ (l : List ByteArray) (i : Nat) (h : i < l.length), (∀ j (hj : j < i), rdS l[j] ≠ none) → rdS l[i] = none → badN l = i
 | s :: l, 0, _, _, h2 => by
   simp only [List.getElem_cons_zero] at h2
   simp [badN, h2]
 | s :: l, i + 1, h, h1, h2 => by
   have h0 := h1 0 (Nat.succ_pos _)
   simp only [List.getElem_cons_zero] at h0
   simp only [List.getElem_cons_succ] at h2
   have ih := badN_eq l i (by simpa using h) (fun j hj => by have := h1 (j + 1) (by omega); simpa using this) h2
   unfold badN
   cases hq : rdS s with
   | none => exact absurd hq h0
   | some x => simp [ih]
theorem badN_all : ∀ (l : List ByteArray), (∀ j (hj : j < l.length), rdS l[j] ≠ none) → badN l = l.length
 | [], _ => rfl
 | s :: l, h => by
   have h0 := h 0 (Nat.succ_pos _)
   simp only [List.getElem_cons_zero] at h0
   have ih := badN_all l fun j hj => by have := h (j + 1) (by simpa using hj); simpa using this
   unfold badN
   cases hq : rdS s with
   | none => exact absurd hq h0
   | some x => simp [ih]
noncomputable def parseS (s : ByteArray) : TProgram × TFault :=
 if s.size = 0 ∨ 1500000 < s.size then ([], (1, 0)) else
 let L := splitS s
 let D := L.dropLast
 if badN D < D.length then ([], (2, (badN D : Int))) else
 if (L.getLast?.getD ⟨#[]⟩).size ≠ 0 then ([], (2, (D.length : Int))) else
 if 200 < D.length then ([], (3, 0)) else (D.filterMap rdS, (0, 0))
theorem splitS_cut {t a b : ByteArray} (h : 10 ∉ ls a) (e : ls t = ls a ++ 10 :: ls b) : splitS t = a :: splitS b := by
 unfold splitS
 rw [e, splitL_cut _ h, List.map_cons, bs_ls]
theorem splitS_one {t : ByteArray} (h : 10 ∉ ls t) : splitS t = [t] := by
 unfold splitS
 rw [splitL_one h, List.map_cons, bs_ls]
 rfl
theorem splitS_count (t : ByteArray) : (splitS t).length = (ls t).count 10 + 1 := by unfold splitS; rw [List.length_map, splitL_len]
theorem hexV_three : ∀ c : UInt8, (48 ≤ c.toNat ∧ c.toNat ≤ 57 ∧ hexV c = (c.toNat : Int) - 48) ∨ (97 ≤ c.toNat ∧ c.toNat ≤ 102 ∧ hexV c = (c.toNat : Int) - 97 + 10) ∨ (¬ (48 ≤ c.toNat ∧ c.toNat ≤ 57) ∧ ¬ (97 ≤ c.toNat ∧ c.toNat ≤ 102) ∧ hexV c = -1) := by
 have h : ∀ n : Nat, n < 256 → (48 ≤ (UInt8.ofNat n).toNat ∧ (UInt8.ofNat n).toNat ≤ 57 ∧ hexV (UInt8.ofNat n) = ((UInt8.ofNat n).toNat : Int) - 48) ∨ (97 ≤ (UInt8.ofNat n).toNat ∧ (UInt8.ofNat n).toNat ≤ 102 ∧ hexV (UInt8.ofNat n) = ((UInt8.ofNat n).toNat : Int) - 97 + 10) ∨ (¬ (48 ≤ (UInt8.ofNat n).toNat ∧ (UInt8.ofNat n).toNat ≤ 57) ∧ ¬ (97 ≤ (UInt8.ofNat n).toNat ∧ (UInt8.ofNat n).toNat ≤ 102) ∧ hexV (UInt8.ofNat n) = -1) := by decide +kernel
 intro c
 have := h c.toNat c.toNat_lt
 rwa [UInt8.ofNat_toNat] at this
theorem extract_tail {s w r : ByteArray} (h : s = w ++ ⟨#[32]⟩ ++ r) : s.extract (w.size + 1) s.size = r := by
 have e1 : (⟨#[32]⟩ : ByteArray).size = 1 := rfl
 have hs : s.size = w.size + 1 + r.size := by rw [h, ByteArray.size_append, ByteArray.size_append, e1]
 rw [bs_extract, h, ls_app, List.drop_left' (by rw [ls_app, List.length_append, ls_length, ls_length, e1]), List.take_of_length_le (by rw [ls_length, ← h]; omega), bs_ls]
theorem line_text {y : TIns} (hk : opKd y.1 = 116) : lineS y = opWord y.1 ++ ⟨#[32]⟩ ++ quoteS y.2.1 := by unfold lineS; rw [if_pos hk]
theorem line_num {y : TIns} (hk : opKd y.1 = 110 ∨ opKd y.1 = 106) : lineS y = opWord y.1 ++ ⟨#[32]⟩ ++ decS y.2.2.toNat := by
 unfold lineS
 rcases hk with hk | hk <;> rw [if_neg (by rw [hk]; decide), if_neg (by rw [hk]; decide)]
theorem tail_size2 {s w r : ByteArray} (h : s = w ++ ⟨#[32]⟩ ++ r) : w.size < s.size := by
 have e1 : (⟨#[32]⟩ : ByteArray).size = 1 := rfl
 rw [h, ByteArray.size_append, ByteArray.size_append, e1]
 omega
theorem ins_kind0 {x : TIns} (h : InsOk x) (hk : opKd x.1 = 0) : x = (x.1, ⟨#[]⟩, 0) := by
 obtain ⟨_, _, _, u4, u5⟩ := ins_num h
 obtain ⟨a, b, c⟩ := x
 simp only at hk u4 u5
 rw [u4 hk, u5 (by rw [hk]; decide)]
theorem ins_text {x : TIns} (h : InsOk x) (hk : opKd x.1 = 116) : x = (x.1, x.2.1, 0) := by
 obtain ⟨_, _, u3, _, _⟩ := ins_num h
 obtain ⟨a, b, c⟩ := x
 simp only at hk u3
 rw [u3 hk]
theorem ins_numk {x : TIns} (h : InsOk x) (hk : opKd x.1 = 110 ∨ opKd x.1 = 106) : x = (x.1, ⟨#[]⟩, (x.2.2.toNat : Int)) := by
 obtain ⟨u1, _, _, _, u5⟩ := ins_num h
 obtain ⟨a, b, c⟩ := x
 simp only at hk u1 u5
 rw [u5 (by rcases hk with hk | hk <;> rw [hk] <;> decide)]
 simp only [Prod.mk.injEq, true_and]
 omega
theorem cutS_size (s : ByteArray) : (cutS s).1.size ≤ s.size ∧ (cutS s).2.1.size ≤ s.size := by
 rcases ix_cases (ls s) 32 with ⟨_, h⟩ | ⟨a, b, h3, h4, _⟩
 ·rw [cutS_none h]; exact ⟨Nat.le_refl _, Nat.zero_le _⟩
 ·have hal : a.length + 1 + b.length = s.size := by have := congrArg List.length h3; rw [ls_length, List.length_append, List.length_cons] at this; omega
  have hcs : cutS s = (bs a, bs b, true) := by unfold cutS; rw [h3, cutL_at _ h4]
  rw [hcs]
  show (bs a).size ≤ _ ∧ (bs b).size ≤ _
  rw [bs_size a, bs_size b]
  omega
theorem last_get {L : List ByteArray} (h : 1 ≤ L.length) : (L.getLast?.getD ⟨#[]⟩) = L[L.length - 1]'(by omega) := by
 rw [List.getLast?_eq_getElem?, List.getElem?_eq_getElem (by omega)]
 rfl
theorem parse_big {s : ByteArray} (h : s.size = 0 ∨ 1500000 < s.size) : parseS s = ([], (1, 0)) := by unfold parseS; rw [if_pos h]
theorem parse_bad {s : ByteArray} (h : ¬ (s.size = 0 ∨ 1500000 < s.size)) {i : Nat} (hi : i < (splitS s).length - 1) (h1 : ∀ j (hj : j < i), rdS ((splitS s)[j]'(by omega)) ≠ none) (h2 : rdS ((splitS s)[i]'(by omega)) = none) : parseS s = ([], (2, (i : Int))) := by
 unfold parseS
 rw [if_neg h]
 have hb : badN (splitS s).dropLast = i := badN_eq _ i (by rw [List.length_dropLast]; exact hi) (fun j hj => by rw [List.getElem_dropLast]; exact h1 j hj) (by rw [List.getElem_dropLast]; exact h2)
 show (if badN (splitS s).dropLast < (splitS s).dropLast.length then _ else _) = _
 rw [hb, if_pos (by rw [List.length_dropLast]; exact hi)]
theorem parse_all {s : ByteArray} (h : ¬ (s.size = 0 ∨ 1500000 < s.size)) (h1 : ∀ j (hj : j < (splitS s).length - 1), rdS ((splitS s)[j]'(by omega)) ≠ none) :
 parseS s = if ((splitS s)[(splitS s).length - 1]'(by have := splitS_ne s; omega)).size ≠ 0 then ([], (2, (((splitS s).length - 1 : Nat) : Int))) else if 200 < (splitS s).length - 1 then ([], (3, 0)) else (((splitS s).take ((splitS s).length - 1)).filterMap rdS, (0, 0)) := by
 unfold parseS
 rw [if_neg h]
 have hb : badN (splitS s).dropLast = (splitS s).dropLast.length := badN_all _ (fun j hj => by rw [List.getElem_dropLast]; exact h1 j (by rw [List.length_dropLast] at hj; exact hj))
 show (if badN (splitS s).dropLast < (splitS s).dropLast.length then _ else _) = _
 rw [hb, if_neg (Nat.lt_irrefl _), last_get (splitS_ne s), List.length_dropLast, List.dropLast_eq_take]
theorem filter_succ {L : List ByteArray} {i : Nat} (h : i < L.length) {x : TIns} (hx : rdS L[i] = some x) : (L.take (i + 1)).filterMap rdS = (L.take i).filterMap rdS ++ [x] := by
 rw [List.take_succ_eq_append_getElem h, List.filterMap_append]
 simp [hx]
theorem rdS_ok {s : ByteArray} {x : TIns} (h : rdS s = some x) : InsOk x := by
 rcases rdS_cases s with ⟨y, h1, h2, _⟩ | ⟨h1, _⟩
 ·rw [h] at h1; cases h1; exact h2
 ·rw [h] at h1; cases h1
theorem ins_sz_sum : ∀ l : List TIns, (∀ x ∈ l, InsOk x) → (l.map Mk.sz).sum ≤ 2000 * l.length
 | [], _ => by simp
 | x :: l, h => by
   have h1 := (h x (by simp)).2.2.1
   have h2 := ins_sz_sum l fun y hy => h y (by simp [hy])
   have e : Mk.sz x = 0 + (x.2.1.size + 0) := rfl
   rw [List.map_cons, List.sum_cons, List.length_cons, e]
   omega
theorem parseS_sz (s : ByteArray) : Mk.sz (parseS s).1 ≤ 1000000 := by
 have h0 : Mk.sz ([] : TProgram) ≤ 1000000 := by decide
 unfold parseS
 split
 ·exact h0
 ·show Mk.sz (if badN (splitS s).dropLast < (splitS s).dropLast.length then _ else _ : TProgram × TFault).1 ≤ _
  split
  ·exact h0
  ·split
   ·exact h0
   ·split
    ·exact h0
    ·rename_i h
     have h1 : ((splitS s).dropLast.filterMap rdS).length ≤ (splitS s).dropLast.length := List.length_filterMap_le _ _
     have h2 := ins_sz_sum ((splitS s).dropLast.filterMap rdS) fun x hx => by
      obtain ⟨y, _, hy⟩ := List.mem_filterMap.1 hx
      exact rdS_ok hy
     show ((splitS s).dropLast.filterMap rdS).length + (((splitS s).dropLast.filterMap rdS).map Mk.sz).sum ≤ _
     have h3 : (splitS s).dropLast.length ≤ 200 := by omega
     omega
end Go.AM
namespace Go.AM
open Go Go.RowKit Go.ChangeShapes
set_option linter.all false
def ErrV (g : Nat) (A : AH) : Prop := g < A.size ∧ ∃ T x, A.get g = .cells [.iface T x] 1
theorem ErrV.ext {g : Nat} {A A' : AH} (h : ErrV g A) (hE : Ext A A') : ErrV g A' := by
 obtain ⟨h1, T, x, h2⟩ := h
 exact ⟨Nat.lt_of_lt_of_le h1 hE.size, T, x, (hE.get g h1).trans h2⟩
def NoNum (l : List UInt8) : Prop := (∀ v, Lib.atoiAll l ≠ .ok v) ∧ Lib.atoiAll l ≠ .range
inductive PrsX (fA fC fI : FuncId) (T : TypeId) (gS gR : Nat) (ro : Nat) (f : FuncId) (args : List Value) (A : AH) : ARes → AH → Prop
 | ok {s : ByteArray} {v : Int} (hf : f = fA) (ha : args = [.string s]) (hs : s.size ≤ 281474976710656) (h : Lib.atoiAll (ls s) = .ok v) : PrsX fA fC fI T gS gR ro f args A (.ret (.tuple #[.int .i64 v, .nilIface])) A
 | bad {s : ByteArray} {n : Int} (hf : f = fA) (ha : args = [.string s]) (hs : s.size ≤ 281474976710656) (h : (NoNum (ls s) ∧ n = 0) ∨ (Lib.atoiAll (ls s) = .range ∧ n = Lib.atoiSat (ls s))) (h1 : ErrV gS A) (h2 : ErrV gR A) (hro : ro ≤ A.size) :
  PrsX fA fC fI T gS gR ro f args A (.ret (.tuple #[.int .i64 n, .iface T (.pointer (some ⟨A.size, 0, none⟩))])) (A.new .dead)
 | count {s : ByteArray} {c : Int} (hf : f = fC) (ha : args = [.string s, .int .u8 c]) : PrsX fA fC fI T gS gR ro f args A (.ret (.int .i64 (Lib.countByte (ls s) c.toNat.toUInt8 : Nat))) A
 | index {s : ByteArray} {c : Int} (hf : f = fI) (ha : args = [.string s, .int .u8 c]) : PrsX fA fC fI T gS gR ro f args A (.ret (.int .i64 (Lib.indexByte (ls s) c.toNat.toUInt8))) A
section
variable {P : Program} {ng ro base : Nat} {w0 : World} {m : Emb} {A : AH} {w : World}
theorem Step.junkAdd {w' : World} (h : Sim ng ro base w0 m A w) (hB : Below w.heap.size w w') (N : Nat) (hro : ro ≤ A.size) :
 Step ng ro base w0 m A w (m.add A.size N 0 0 1) (A.new .dead) w' := by
 have hle : m.Le (m.add A.size N 0 0 1) := Emb.add_le h.fresh
 have hdead : (A.new .dead).get A.size = .dead := AH.gNs _ _
 have hne : ∀ {b}, (A.new .dead).get b ≠ .dead → b ≠ A.size := fun hb e => hb (by rw [e]; exact hdead)
 have hget : ∀ {b}, b ≠ A.size → (A.new .dead).get b = A.get b := fun hb => AH.gNo hb
 have hr : ∀ {b}, b ≠ A.size → (m.add A.size N 0 0 1).r b = m.r b := fun hb => if_neg hb
 have hs : ∀ {b}, b ≠ A.size → (m.add A.size N 0 0 1).s b = m.s b := fun hb => if_neg hb
 have hk : ∀ {b}, b ≠ A.size → (m.add A.size N 0 0 1).k b = m.k b := fun hb => if_neg hb
 have he : ∀ {b}, b ≠ A.size → (m.add A.size N 0 0 1).e b = m.e b := fun hb => if_neg hb
 refine ⟨hle, ?_, Nat.le_succ _, hB.size, fun r hr' _ => hB.block r hr', fun b hb => .inl ⟨b, by rw [← hget (hne hb)]; exact hb, (hr (hne hb)).symm⟩⟩
 refine ⟨fun g hg => ?_, fun b hb => ?_, fun b c e hb => ?_, fun b es hb => ?_, fun b hb h1 => ?_, fun b b' hb hb' h1 h2 h3 => ?_, fun b hb h1 => ?_, Nat.le_trans h.bl hB.size, Nat.le_trans h.rl (Nat.le_succ _), h.old.trans (hB.mono h.bl)⟩
 ·obtain ⟨h1, h2, h3⟩ := h.glob g hg
  exact ⟨.inl h1, (hle.r g h1).trans h2, (hle.s g h1).trans h3⟩
 ·rcases hb with hb | rfl
  ·exact Nat.lt_succ_of_lt (h.dlt b hb)
  ·exact Nat.lt_succ_self _
 ·have hn : b ≠ A.size := hne (by rw [hb]; simp)
  rw [hget hn] at hb
  obtain ⟨h1, c', el, fz, h2, h3, h4, h5, h6, h7⟩ := h.cells b c e hb
  rw [hr hn, hs hn, hk hn, he hn]
  refine ⟨.inl h1, c', el, fz, (hB.block _ (h.lt (by rw [hb]; simp))).trans h2, h3, h4, h5, fun i v hv => ?_, h7⟩
  obtain ⟨k1, v', k2, k3⟩ := h6 i v hv
  exact ⟨k1, v', k2, k3.mono hle⟩
 ·have hn : b ≠ A.size := hne (by rw [hb]; simp)
  rw [hget hn] at hb
  obtain ⟨h1, es', cl, h2, h3⟩ := h.maps b es hb
  rw [hr hn]
  exact ⟨.inl h1, es', cl, (hB.block _ (h.lt (by rw [hb]; simp))).trans h2, h3.mono hle⟩
 ·have hn := hne hb
  rw [hr hn]
  exact h.rw b (by rw [← hget hn]; exact hb) h1
 ·have hn := hne hb
  have hn' := hne hb'
  rw [hr hn, hr hn'] at h3
  exact h.inj b b' (by rw [← hget hn]; exact hb) (by rw [← hget hn']; exact hb') h1 h2 h3
 ·have hn := hne hb
  rw [hr hn]
  exact h.lo b (by rw [← hget hn]; exact hb) h1
theorem Sim.errv (h : Sim ng ro base w0 m A w) {g : Nat} (hg : g < ng) (hv : ErrV g A) : ∃ ev, w.cell? ⟨g, 0, none⟩ = some ev ∧ (ev = .nilIface ∨ ∃ te pe, ev = .iface te pe) := by
 obtain ⟨_, T, x, hx⟩ := hv
 obtain ⟨_, r0, s0⟩ := h.glob g hg
 obtain ⟨_, c', el, fz, k1, _, _, _, k5, _⟩ := h.cells g _ _ hx
 obtain ⟨_, v', k6, k7⟩ := k5 0 _ rfl
 cases k7 with
 | iface _ _ v' _ =>
 refine ⟨.iface T v', ?_, .inr ⟨T, v', rfl⟩⟩
 rw [r0] at k1
 rw [s0] at k6
 rw [cell_row k1]
 exact k6
theorem prs_sound {fA fC fI : FuncId} {T : TypeId} {gS gR : Nat} (hgS : gS < ng) (hgR : gR < ng) (hfA : ∀ args w, (callFunc fA args).run P w = .ok (.enter fA args) w)
 (hok : ∀ (s : ByteArray) (v : Int) (w : World), s.size ≤ 281474976710656 → Lib.atoiAll (ls s) = .ok v → Calls P fA #[.string s] w fun e w' => e = .returned (.tuple #[.int .i64 v, .nilIface]) ∧ Below w.heap.size w w')
 (hbad : ∀ (s : ByteArray) (n : Int) (w : World) (ev ew : Value), s.size ≤ 281474976710656 → (NoNum (ls s) ∧ n = 0) ∨ (Lib.atoiAll (ls s) = .range ∧ n = Lib.atoiSat (ls s)) →
   w.cell? ⟨gS, 0, none⟩ = some ev → (ev = .nilIface ∨ ∃ te pe, ev = .iface te pe) → w.cell? ⟨gR, 0, none⟩ = some ew → (ew = .nilIface ∨ ∃ te pe, ew = .iface te pe) →
   Calls P fA #[.string s] w fun e w' => ∃ N, e = .returned (.tuple #[.int .i64 n, .iface T (.pointer (some ⟨N, 0, none⟩))]) ∧ Below w.heap.size w w')
 (hcnt : ∀ (s : ByteArray) (c : Int) (w : World), (callFunc fC #[.string s, .int .u8 c]).run P w = .ok (.value (.int .i64 (Lib.countByte (ls s) c.toNat.toUInt8 : Nat))) w)
 (hidx : ∀ (s : ByteArray) (c : Int) (w : World), (callFunc fI #[.string s, .int .u8 c]).run P w = .ok (.value (.int .i64 (Lib.indexByte (ls s) c.toNat.toUInt8))) w)
 {f : FuncId} {args : List Value} {r : ARes} {A' : AH} (h : PrsX fA fC fI T gS gR ro f args A r A') : CallSound P ng ro base w0 f args A r A' ∧ A.size ≤ A'.size := by
 cases h with
 | ok hf ha hs h =>
   subst hf ha
   refine ⟨fun m w args' hS hv => ?_, Nat.le_refl _⟩
   cases hv with
   | cons _ v1 _ l1 g1 hv =>
   cases hv
   cases g1
   left
   refine ⟨hfA _ _, (hok _ _ w hs h).mono ?_⟩
   rintro e w' ⟨rfl, hB⟩
   exact ⟨m, Step.junk hS hB.os hB.tape hB.output hB.size hB.block, .tuple _ _ (.cons _ _ _ _ (.int _ _) (.cons _ _ _ _ .nilIface .nil))⟩
 | bad hf ha hs h h1 h2 hro =>
   subst hf ha
   refine ⟨fun m w args' hS hv => ?_, Nat.le_succ _⟩
   cases hv with
   | cons _ v1 _ l1 g1 hv =>
   cases hv
   cases g1
   left
   obtain ⟨ev, e1, e2⟩ := hS.errv hgS h1
   obtain ⟨ew, e3, e4⟩ := hS.errv hgR h2
   refine ⟨hfA _ _, (hbad _ _ w ev ew hs h e1 e2 e3 e4).mono ?_⟩
   rintro e w' ⟨N, rfl, hB⟩
   have hp : VRel (m.add A.size N 0 0 1) (.pointer (some ⟨A.size, 0, none⟩)) (.pointer (some ⟨N, 0, none⟩)) := by
    have := VRel.ptr (m := m.add A.size N 0 0 1) A.size 0 Emb.add_dom
    simpa using this
   exact ⟨_, Step.junkAdd hS hB N hro, .tuple _ _ (.cons _ _ _ _ (.int _ _) (.cons _ _ _ _ (.iface _ _ _ hp) .nil))⟩
 | count hf ha =>
   subst hf ha
   refine ⟨fun m w args' hS hv => ?_, Nat.le_refl _⟩
   cases hv with
   | cons _ v1 _ l1 g1 hv =>
   cases hv with
   | cons _ v2 _ l2 g2 hv =>
   cases hv
   cases g1
   cases g2
   exact .inr ⟨_, w, hcnt _ _ w, m, Step.refl hS, .int _ _⟩
 | index hf ha =>
   subst hf ha
   refine ⟨fun m w args' hS hv => ?_, Nat.le_refl _⟩
   cases hv with
   | cons _ v1 _ l1 g1 hv =>
   cases hv with
   | cons _ v2 _ l2 g2 hv =>
   cases hv
   cases g1
   cases g2
   exact .inr ⟨_, w, hidx _ _ w, m, Step.refl hS, .int _ _⟩
end
theorem SimG.errv {ng : Nat} {W : World} {m : Emb} {A : AH} (h : SimG ng W m A) {P : Program} {n nm : String} {g : Nat} {t tp te : TypeId} {ms : Array (String × TypeId)} {d : DataW Unit} {cs : Array Value} {fuel : Nat} {p : List MemPlace}
 (hi : P.underlying t = some (.interface ms)) (hrow : ∀ u, P.typeName? 3 u = some nm → u = tp) (hp : P.underlying tp = some (.pointer te)) (hce : P.cellsOf te = 1) (hg : g < ng) (hn : P.globalNamed n = some g) (hv : W.var? P n = some cs)
 (htr : DataW.trod (fun _ => ()) P W 0 (fun _ => true) false fuel t cs.toList = some (.iface nm (.ptr d), p)) :
 ∃ m' A', SimG ng W m' A' ∧ ErrV g A' ∧ A.size ≤ A'.size ∧ ∀ b, b < A.size → b ≠ g → A'.get b = A.get b := by
 obtain ⟨hS, hs, hek⟩ := h
 obtain ⟨f1, u, v, hcs, hnm, h1⟩ := iface_of_trod hi htr
 obtain rfl := hrow u hnm
 obtain ⟨f2, a, cs', q, hvc, hcells, _, _⟩ := ptr_of_trod hp h1
 rw [hce] at hcells
 have hheap : ∃ c' el fz, W.heap[a.block]? = some (.cells c' el fz) ∧ a.spot = none ∧ a.off ≤ c'.size := by
  have hc : ∃ c, W.cell? a = some c := by
   unfold World.cells? at hcells
   split at hcells
   ·simp only [List.range_succ, List.range_zero, List.nil_append, List.mapM_cons, List.mapM_nil, show a.add 0 = a from rfl] at hcells
    cases hcc : W.cell? a with
    | none => simp [hcc] at hcells
    | some c => exact ⟨c, rfl⟩
   ·cases hcells
  obtain ⟨c, hc⟩ := hc
  unfold World.cell? at hc
  split at hc
  ·rename_i c' el fz hh
   split at hc
   ·cases hc
   ·rename_i hspot
    exact ⟨c', el, fz, hh, by simpa using hspot, Nat.le_of_lt (Array.getElem?_eq_some_iff.1 hc).1⟩
  ·cases hc
 obtain ⟨c', el, fz, hh, hsp, hoff⟩ := hheap
 obtain ⟨g1, g2⟩ := SimR.add hS (r := a.block) (s := a.off) (e := 1) (c := []) hh (by simpa using hoff) (fun i v hv => by simp at hv) (by decide)
 obtain ⟨dg, _, _⟩ := hS.glob g hg
 have hgA : g < A.size := hS.dlt g dg
 have hpt : ∃ x, VRel (m.add A.size a.block a.off c'.size 1) x v := by
  have hq : VRel (m.add A.size a.block a.off c'.size 1) (.pointer (some ⟨A.size, 0, none⟩)) (.pointer (some a)) := by
   have := VRel.ptr (m := m.add A.size a.block a.off c'.size 1) A.size 0 Emb.add_dom
   cases a with
   | mk bl of sp =>
     simp only at hsp
     subst hsp
     simpa using this
  cases v <;> simp [Value.cells] at hvc
  case pointer o => subst hvc; exact ⟨_, hq⟩
  case agg l =>
   have hl : l = #[.pointer (some a)] := by
    cases l
    simp_all
   subst hl
   exact ⟨.agg #[.pointer (some ⟨A.size, 0, none⟩)], .agg _ _ (.cons _ _ _ _ hq .nil) (fun y hy => by simp at hy; subst hy; rfl)⟩
 obtain ⟨x, hx⟩ := hpt
 have hrow2 : ∃ el fz, W.heap[g]? = some (.cells cs el fz) := by
  unfold World.var? at hv
  rw [hn] at hv
  simp only [Option.bind_some] at hv
  split at hv
  ·cases hv; exact ⟨_, _, ‹_›⟩
  ·cases hv
 obtain ⟨el2, fz2, hrow2⟩ := hrow2
 obtain ⟨e1, k1⟩ := hek g hg
 rw [hrow2] at k1
 have hek1 : ∀ g', g' < ng → (m.add A.size a.block a.off c'.size 1).e g' = 1 ∧ (m.add A.size a.block a.off c'.size 1).k g' = match W.heap[g']? with | some (.cells c _ _) => c.size | _ => 0 := fun g' hg' => by
  obtain ⟨dg', _, _⟩ := hS.glob g' hg'
  rw [g2.e g' dg', g2.k g' dg']
  exact hek g' hg'
 refine ⟨_, (A.new (.cells [] 1)).put g (.cells [.iface u x] 1), ⟨g1.setGlob hg hrow2 (by rw [g2.k g dg]; exact k1) (by rw [g2.e g dg]; exact e1) (by rw [hcs]; exact .cons _ _ _ _ (.iface _ _ _ hx) .nil) (fun y hy => by simp at hy; subst hy; rfl), Nat.le_trans hs (Nat.le_succ _), hek1⟩,
  ⟨Nat.lt_succ_of_lt hgA, u, x, AH.gPs _ _ _⟩, Nat.le_succ _, fun b hb hbg => (AH.gPo hbg).trans (AH.gNo (Nat.ne_of_lt hb))⟩
def TabPowE (g p s r : Nat) (A : AH) : Prop := TabPow g p A ∧ ErrV s A ∧ ErrV r A
theorem TabPowE.ext {g p s r : Nat} {A A' : AH} (h : TabPowE g p s r A) (hE : Ext A A') : TabPowE g p s r A' := ⟨h.1.ext hE, h.2.1.ext hE, h.2.2.ext hE⟩
end Go.AM
namespace Go.AM
open Go
set_option linter.all false
end Go.AM
namespace Go.AM
open Go
set_option linter.all false
end Go.AM
