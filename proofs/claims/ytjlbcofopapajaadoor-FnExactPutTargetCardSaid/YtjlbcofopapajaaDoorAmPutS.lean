import Derived.Test.YtjlbcofopapajaaDoorAmRun
import Derived.Test.YtjlbcofopapajaaDoorAmSort
namespace Go.AM
open Go
set_option linter.all false
section
variable {α : Type}
def insGo (x : ByteArray × α) : List (ByteArray × α) → List (ByteArray × α)
 | [] => [x]
 | y :: l => if slt x.1 y.1 then x :: y :: l else y :: insGo x l
def someGt (n : ByteArray) (l : List (ByteArray × α)) : Prop := ∃ y ∈ l, slt n y.1
instance (n : ByteArray) (l : List (ByteArray × α)) : Decidable (someGt n l) := by unfold someGt; infer_instance
theorem insGo_none {x : ByteArray × α} : ∀ {l : List (ByteArray × α)}, ¬ someGt x.1 l → insGo x l = l ++ [x]
 | [], _ => rfl
 | y :: l, h => by
   have h1 : ¬ slt x.1 y.1 := fun k => h ⟨y, by simp, k⟩
   have h2 : ¬ someGt x.1 l := fun ⟨z, hz, k⟩ => h ⟨z, by simp [hz], k⟩
   rw [insGo, if_neg h1, insGo_none h2]; rfl
theorem insGo_snoc {x y : ByteArray × α} : ∀ {l : List (ByteArray × α)}, someGt x.1 l → insGo x (l ++ [y]) = insGo x l ++ [y]
 | [], ⟨_, h, _⟩ => by simp at h
 | z :: l, h => by
   by_cases h1 : slt x.1 z.1
   ·rw [List.cons_append, insGo, if_pos h1, insGo, if_pos h1]; rfl
   ·have h2 : someGt x.1 l := by
     obtain ⟨u, hu, k⟩ := h
     rcases List.mem_cons.1 hu with rfl | hu
     ·exact absurd k h1
     ·exact ⟨u, hu, k⟩
    rw [List.cons_append, insGo, if_neg h1, insGo, if_neg h1, insGo_snoc h2]; rfl
theorem insGo_first {x y : ByteArray × α} {l : List (ByteArray × α)} (h : ¬ someGt x.1 l) (k : slt x.1 y.1) : insGo x (l ++ [y]) = l ++ [x, y] := by
 induction l with
 | nil => rw [List.nil_append, insGo, if_pos k]; rfl
 | cons z l ih =>
   have h1 : ¬ slt x.1 z.1 := fun k => h ⟨z, by simp, k⟩
   have h2 : ¬ someGt x.1 l := fun ⟨u, hu, k⟩ => h ⟨u, by simp [hu], k⟩
   rw [List.cons_append, insGo, if_neg h1, ih h2]; rfl
theorem someGt_snoc {n : ByteArray} {l : List (ByteArray × α)} {y : ByteArray × α} : someGt n (l ++ [y]) ↔ someGt n l ∨ slt n y.1 := by
 unfold someGt
 constructor
 ·rintro ⟨z, hz, k⟩
  rcases List.mem_append.1 hz with hz | hz
  ·exact .inl ⟨z, hz, k⟩
  ·simp only [List.mem_singleton] at hz; subst hz; exact .inr k
 ·rintro (⟨z, hz, k⟩ | k)
  ·exact ⟨z, by simp [hz], k⟩
  ·exact ⟨y, by simp, k⟩
theorem insGo_length (x : ByteArray × α) : ∀ l, (insGo x l).length = l.length + 1
 | [] => rfl
 | y :: l => by
   unfold insGo
   split
   ·rfl
   ·rw [List.length_cons, insGo_length x l, List.length_cons]
theorem insGo_perm (x : ByteArray × α) : ∀ l, (insGo x l).Perm (l ++ [x])
 | [] => List.Perm.refl _
 | y :: l => by
   unfold insGo
   split
   ·exact (List.perm_append_comm (l₁ := [x]) (l₂ := y :: l))
   ·exact (insGo_perm x l).cons y
theorem insGo_mem {x y : ByteArray × α} {l : List (ByteArray × α)} : y ∈ insGo x l ↔ y ∈ l ∨ y = x := by
 rw [(insGo_perm x l).mem_iff]; simp
theorem insGo_map {β : Type} (f : ByteArray × α → ByteArray × β) (hf : ∀ x, (f x).1 = x.1) (x : ByteArray × α) : ∀ l, insGo (f x) (l.map f) = (insGo x l).map f
 | [] => rfl
 | y :: l => by
   rw [List.map_cons, insGo, insGo, hf, hf]
   split
   ·rfl
   ·rw [insGo_map f hf x l]; rfl
theorem insGo_sorted {x : ByteArray × α} : ∀ {l : List (ByteArray × α)}, l.Pairwise (fun a b => slt a.1 b.1) → (∀ y ∈ l, y.1 ≠ x.1) → (insGo x l).Pairwise (fun a b => slt a.1 b.1)
 | [], _, _ => by simp [insGo]
 | y :: l, h, k => by
   rw [List.pairwise_cons] at h
   unfold insGo
   split
   ·rename_i q
    refine List.pairwise_cons.2 ⟨fun z hz => ?_, List.pairwise_cons.2 h⟩
    rcases List.mem_cons.1 hz with rfl | hz
    ·exact q
    ·exact slt_trans q (h.1 z hz)
   ·rename_i q
    have q' : slt y.1 x.1 := by
     by_cases h2 : slt y.1 x.1
     ·exact h2
     ·exact absurd (slt_total h2 q) (k y (by simp))
    refine List.pairwise_cons.2 ⟨fun z hz => ?_, insGo_sorted h.2 fun z hz => k z (by simp [hz])⟩
    rcases insGo_mem.1 hz with hz | rfl
    ·exact h.1 z hz
    ·exact q'
def insP (x : ByteArray × α) (l : List (ByteArray × α)) : List (ByteArray × α) := if someGt x.1 l then insGo x l else l
theorem insP_len (x : ByteArray × α) (l : List (ByteArray × α)) : (insP x l).length ≤ l.length + 1 := by
 unfold insP
 split
 ·rw [insGo_length]; omega
 ·omega
theorem insP_done {x y : ByteArray × α} {l : List (ByteArray × α)} (h : someGt x.1 l) : insP x (l ++ [y]) = insP x l ++ [y] := by
 unfold insP
 rw [if_pos (someGt_snoc.2 (.inl h)), if_pos h, insGo_snoc h]
theorem insP_first {x y : ByteArray × α} {l : List (ByteArray × α)} (h : ¬ someGt x.1 l) (k : slt x.1 y.1) : insP x (l ++ [y]) = (insP x l ++ [x]) ++ [y] := by
 unfold insP
 rw [if_pos (someGt_snoc.2 (.inr k)), if_neg h, insGo_first h k]
 simp
theorem insP_not {x y : ByteArray × α} {l : List (ByteArray × α)} (h : ¬ someGt x.1 l) (k : ¬ slt x.1 y.1) : insP x (l ++ [y]) = insP x l ++ [y] := by
 unfold insP
 rw [if_neg (fun q => (someGt_snoc.1 q).elim h k), if_neg h]
theorem insP_end {x : ByteArray × α} {l : List (ByteArray × α)} : (if someGt x.1 l then insP x l else insP x l ++ [x]) = insGo x l := by
 unfold insP
 split
 ·rfl
 ·exact (insGo_none ‹_›).symm
theorem asc_pairwise : ∀ {l : List ByteArray}, Asc l → l.Pairwise slt
 | [], _ => .nil
 | [a], _ => by simp
 | a :: b :: r, h => by
   have ih := asc_pairwise h.2
   refine List.pairwise_cons.2 ⟨fun z hz => ?_, ih⟩
   rcases List.mem_cons.1 hz with rfl | hz
   ·exact h.1
   ·exact slt_trans h.1 ((List.pairwise_cons.1 ih).1 z hz)
theorem wo_sorted {n : ByteArray} {l : List (ByteArray × α)} (h : Asc (l.map (·.1))) : (wo n l).Pairwise (fun a b => slt a.1 b.1) :=
 (List.pairwise_map.1 (asc_pairwise h)).filter _
theorem szL_insGo (f : ByteArray × α → Nat) (x : ByteArray × α) : ∀ l, szL f (insGo x l) = szL f l + (1 + f x)
 | [] => by simp [insGo, szL]
 | y :: l => by
   unfold insGo
   split
   ·rw [szL_cons', szL_cons']; omega
   ·rw [szL_cons', szL_cons', szL_insGo f x l]; omega
end
theorem space_asc {x : TSpace} (h : spaceCode x = 0) : Asc (x.1.map (·.1)) ∧ Asc (x.2.map (·.1)) ∧ x.1.length + x.2.length ≤ 200 := by
 unfold spaceCode at h
 split at h
 ·cases h
 split at h
 ·cases h
 split at h
 ·cases h
 split at h
 ·cases h
 rename_i h1 h2 h3 h4
 exact ⟨Decidable.not_not.1 h3, Decidable.not_not.1 h4, by omega⟩
def putTgtR (x : TSpace) (n : ByteArray) (p : TProgram) : TSpace × Int :=
 if spaceCode x ≠ 0 then (zeroSp, 1) else if ¬ NameOk n ∨ ¬ ProgOk p then (zeroSp, 2) else if 200 ≤ (wo n x.1).length + (wo n x.2).length then (zeroSp, 3) else ((wo n x.1, insGo (n, p) (wo n x.2)), 0)
theorem putTgtR_sz (x : TSpace) (n : ByteArray) (p : TProgram) : Mk.sz (putTgtR x n p).1 ≤ Mk.sz x + (1 + (n.size + Mk.sz p)) := by
 have h1 : szL Mk.sz (wo n x.1) ≤ szL Mk.sz x.1 := szL_filter _ _ _
 have h2 : szL Mk.sz (wo n x.2) ≤ szL Mk.sz x.2 := szL_filter _ _ _
 have h3 : szL Mk.sz (insGo (n, p) (wo n x.2)) = szL Mk.sz (wo n x.2) + (1 + (n.size + Mk.sz p)) := szL_insGo Mk.sz (n, p) (wo n x.2)
 have h0 : Mk.sz zeroSp = 0 := rfl
 unfold putTgtR
 split
 ·show Mk.sz zeroSp ≤ _; omega
 split
 ·show Mk.sz zeroSp ≤ _; omega
 split
 ·show Mk.sz zeroSp ≤ _; omega
 ·show szL Mk.sz (wo n x.1) + szL Mk.sz (insGo (n, p) (wo n x.2)) ≤ szL Mk.sz x.1 + szL Mk.sz x.2 + (1 + (n.size + Mk.sz p))
  omega
theorem putTgtR_1 {x : TSpace} {n : ByteArray} {p : TProgram} (h : ¬ spaceCode x = 0) : putTgtR x n p = (zeroSp, 1) := if_pos h
theorem putTgtR_2 {x : TSpace} {n : ByteArray} {p : TProgram} (h : spaceCode x = 0) (k : ¬ NameOk n ∨ ¬ ProgOk p) : putTgtR x n p = (zeroSp, 2) := by rw [putTgtR, if_neg (fun q => q h), if_pos k]
theorem putTgtR_3 {x : TSpace} {n : ByteArray} {p : TProgram} (h : spaceCode x = 0) (k : ¬ (¬ NameOk n ∨ ¬ ProgOk p)) (l : 200 ≤ (wo n x.1).length + (wo n x.2).length) : putTgtR x n p = (zeroSp, 3) := by
 rw [putTgtR, if_neg (fun q => q h), if_neg k, if_pos l]
theorem putTgtR_0 {x : TSpace} {n : ByteArray} {p : TProgram} (h : spaceCode x = 0) (k : ¬ (¬ NameOk n ∨ ¬ ProgOk p)) (l : ¬ 200 ≤ (wo n x.1).length + (wo n x.2).length) : putTgtR x n p = ((wo n x.1, insGo (n, p) (wo n x.2)), 0) := by
 rw [putTgtR, if_neg (fun q => q h), if_neg k, if_neg l]
end Go.AM
namespace Go.AM
open Go
set_option linter.all false
section
variable {β : Type} [Dat (ByteArray × β)]
def TwoCells (β : Type) [Dat (ByteArray × β)] : Prop := ∀ (A : AH) (x : ByteArray × β) (cs : List Value) (F : List Nat), Dat.rep A x cs F → ∃ v, cs = [.string x.1, v]
theorem Reps.elems (hr : TwoCells β) {A : AH} {l : List (ByteArray × β)} {cs : List Value} {G : List Nat} (h : Reps A l cs G) :
 ∃ E : List (ByteArray × (β × Value × List Nat)), l = E.map (fun e => (e.1, e.2.1)) ∧ cs = flatE (E.map fun e => (e.1, e.2.2.1)) ∧ G = (E.map (·.2.2.2)).flatten ∧ ∀ e ∈ E, Dat.rep A (e.1, e.2.1) [.string e.1, e.2.2.1] e.2.2.2 := by
 induction h with
 | nil => exact ⟨[], rfl, rfl, rfl, by simp⟩
 | @cons x l c cs F G h k ih =>
   obtain ⟨E, e1, e2, e3, e4⟩ := ih
   obtain ⟨v, rfl⟩ := hr _ _ _ _ h
   refine ⟨(x.1, x.2, v, F) :: E, by rw [e1]; rfl, by rw [e2]; rfl, by rw [e3]; rfl, fun e he => ?_⟩
   rcases List.mem_cons.1 he with rfl | he
   ·exact h
   ·exact e4 e he
theorem Reps.ofElems {A : AH} : ∀ {E : List (ByteArray × (β × Value × List Nat))}, (∀ e ∈ E, Dat.rep A (e.1, e.2.1) [.string e.1, e.2.2.1] e.2.2.2) → Reps A (E.map (fun e => (e.1, e.2.1))) (flatE (E.map fun e => (e.1, e.2.2.1))) (E.map (·.2.2.2)).flatten
 | [], _ => .nil
 | e :: E, h => .cons (c := [.string e.1, e.2.2.1]) (h e (by simp)) (Reps.ofElems fun e he => h e (by simp [he]))
theorem setCells_all {c vs : List Value} (h : c.length = vs.length) : setCells c 0 vs = vs := by
 refine List.ext_getElem? fun i => ?_
 rw [setCells_get vs c 0 i (by omega)]
 by_cases hi : i < vs.length
 ·rw [if_pos (by omega), Nat.sub_zero]
 ·rw [if_neg (by omega), List.getElem?_eq_none (by omega), List.getElem?_eq_none (by omega)]
theorem flatten_perm {γ : Type} {l l' : List (List γ)} (h : l.Perm l') : l.flatten.Perm l'.flatten := by
 induction h with
 | nil => exact .refl _
 | cons x _ ih => rw [List.flatten_cons, List.flatten_cons]; exact ih.append_left x
 | swap x y l =>
   rw [List.flatten_cons, List.flatten_cons, List.flatten_cons, List.flatten_cons, ← List.append_assoc, ← List.append_assoc]
   exact (List.perm_append_comm).append_right _
 | trans _ _ h k => exact h.trans k
theorem Acc.isOwn {α : Type} [Dat α] {lo : Nat} {A : AH} {s : Sl} {l : List α} {G : List Nat} (h : Acc lo A s l G) (hl : l ≠ []) :
 ∃ c cs, s = ⟨false, s.b, 0, l.length, c⟩ ∧ lo ≤ s.b ∧ s.b < A.size ∧ s.b ∉ G ∧ (c = BIG ∨ (c = l.length ∧ l.length < BIG)) ∧ A.get s.b = .cells cs (Dat.w α) ∧ Reps A l cs G := by
 cases h with
 | nil => exact absurd rfl hl
 | empty => exact absurd rfl hl
 | @own b n c cs l G h1 h2 h3 h4 h5 h6 h7 => subst h4; exact ⟨c, cs, rfl, h1, h2, h3, h5, h6, h7⟩
theorem SlR.elems (hw : Dat.w (ByteArray × β) = 2) (hr : TwoCells β) {A : AH} {s : Sl} {l : List (ByteArray × β)} {F : List Nat} (h : SlR A s l F) :
 ∃ E : List (ByteArray × (β × Value × List Nat)), l = E.map (fun e => (e.1, e.2.1)) ∧ (∀ e ∈ E, Dat.rep A (e.1, e.2.1) [.string e.1, e.2.2.1] e.2.2.2) ∧ (F.Nodup → (E.map (·.2.2.2)).flatten.Nodup) ∧ (∀ b ∈ (E.map (·.2.2.2)).flatten, b ∈ F) ∧
   ∀ (i : Nat) (hi : i < E.length), s.nl = false ∧ s.b < A.size ∧ i < s.len ∧ rowK (s.o + i * 2) 2 (A.get s.b) = some [.string E[i].1, E[i].2.2.1] ∧ cellK (s.o + i * 2) (A.get s.b) = some (.string E[i].1) := by
 cases h with
 | nil h hl hF => subst hl; exact ⟨[], rfl, by simp, by simp, by simp, fun i hi => by simp at hi⟩
 | empty h _ _ hl hF => subst hl; exact ⟨[], rfl, by simp, by simp, by simp, fun i hi => by simp at hi⟩
 | inB h =>
   obtain ⟨h1, h2, h3, h4, c, cs, G, h5, h6, h7, h8, rfl⟩ := h
   rw [hw] at h5 h6 h7
   obtain ⟨E, e1, e2, e3, e4⟩ := h8.elems hr
   subst e3
   refine ⟨E, e1, e4, fun hn => (List.nodup_cons.1 hn).2, fun b hb => List.mem_cons_of_mem _ hb, fun i hi => ?_⟩
   have hl : s.len = E.length := by rw [h3, e1, List.length_map]
   have hget : ∀ j, j < 2 * E.length → c[s.o + j]? = cs[j]? := fun j hj => by
    rw [← h7, List.getElem?_take, if_pos (by omega), List.getElem?_drop]
   obtain ⟨f1, f2⟩ := flatE_get (E.map fun e => (e.1, e.2.2.1)) i (by simpa using hi)
   rw [← e2, ← hget _ (by omega)] at f1 f2
   simp only [List.getElem_map] at f1 f2
   have hi2 : s.o + i * 2 + 2 ≤ c.length := by omega
   refine ⟨h1, h2, by omega, ?_, ?_⟩
   ·rw [h5]
    unfold rowK
    simp only
    rw [if_pos hi2]
    congr 1
    refine row_of (by simp) hi2 fun j hj => ?_
    rcases (by omega : j = 0 ∨ j = 1) with rfl | rfl
    ·rw [show s.o + i * 2 + 0 = s.o + 2 * i by omega, f1]; rfl
    ·rw [show s.o + i * 2 + 1 = s.o + (2 * i + 1) by omega, f2]; rfl
   ·rw [h5]
    unfold cellK
    simp only
    rw [show s.o + i * 2 = s.o + 2 * i by omega]
    exact f1
theorem Acc.sorted (hw : Dat.w (ByteArray × β) = 2) (hr : TwoCells β) {fS : FuncId} {t g k ro lo p ep : Nat} {cp : List Value} {X : FuncId → List Value → AH → ARes → AH → Prop} {A : AH} {s : Sl} {l : List (ByteArray × β)} {x : ByteArray × β} {G : List Nat}
 (hX : ∀ f args A r A', SortX fS [(t, g, k)] ro f args A r A' → X f args A r A') (h : Acc lo A s (l ++ [x]) G) (hlo : ro ≤ lo) (hp : A.get p = .cells cp ep) (hk : cp[k]? = some s.v) (hpb : s.b ≠ p) (hpG : p ∉ G) (hrp : ro ≤ p) (hlim : l.length + 1 < 4294967296)
 (hs : l.Pairwise fun a b => slt a.1 b.1) (hx : ∀ y ∈ l, y.1 ≠ x.1) :
 ∃ A' G', X fS [.iface t s.v, .func (.func g) #[] #[.pointer (some ⟨p, 0, none⟩)]] A (.ret (.tuple #[])) A' ∧ Acc lo A' s (insGo x l) G' ∧ G'.Perm G ∧ A'.size = A.size ∧ ∀ b, b ≠ s.b → A'.get b = A.get b := by
 obtain ⟨c, cs, es, h1, h2, h3, h5, h6, h7⟩ := h.isOwn (by simp)
 rw [hw] at h6
 obtain ⟨E, e1, e2, e3, e4⟩ := h7.elems hr
 obtain ⟨E0, x0, rfl, k1, k2⟩ : ∃ E0 x0, E = E0 ++ [x0] ∧ l = E0.map (fun e => (e.1, e.2.1)) ∧ x = (x0.1, x0.2.1) := by
  have hne : E ≠ [] := by
   intro e
   rw [e] at e1
   have := congrArg List.length e1
   simp at this
  refine ⟨E.dropLast, E.getLast hne, (List.dropLast_concat_getLast hne).symm, ?_, ?_⟩
  ·have := congrArg List.dropLast e1
   rw [List.dropLast_concat, ← List.map_dropLast] at this
   exact this
  ·have := congrArg List.getLast? e1
   rw [List.getLast?_concat, List.getLast?_map, List.getLast?_eq_some_getLast hne] at this
   simpa using this
 subst k1 k2
 have hlen : s.len = (E0 ++ [x0]).length := by rw [es]; simp
 have hso : s.o = 0 := by rw [es]
 have hv : s.v = .slice (some ⟨s.b, 0, none⟩) (E0 ++ [x0]).length s.cap := by
  have : s.nl = false := by rw [es]
  unfold Sl.v
  rw [this, hlen, hso]
  rfl
 have hfl : cs.length = 2 * (E0 ++ [x0]).length := by rw [e2, flatE_len, List.length_map]
 have hperm : (insGo x0 E0).Perm (E0 ++ [x0]) := insGo_perm x0 E0
 have hins : insGo (x0.1, x0.2.1) (E0.map fun e => (e.1, e.2.1)) = (insGo x0 E0).map fun e => (e.1, e.2.1) := insGo_map (fun e => (e.1, e.2.1)) (fun _ => rfl) x0 E0
 have hsE : (insGo x0 E0).Pairwise fun a b => slt a.1 b.1 := insGo_sorted ((List.pairwise_map (f := fun e : ByteArray × (β × Value × List Nat) => (e.1, e.2.1)) (R := fun a b : ByteArray × β => slt a.1 b.1)).1 hs) fun y hy => hx (y.1, y.2.1) (List.mem_map.2 ⟨y, hy, rfl⟩)
 have hlen' : (flatE ((insGo x0 E0).map fun e => (e.1, e.2.2.1))).length = cs.length := by rw [flatE_len, List.length_map, insGo_length, hfl]; simp
 have hset : setCells cs 0 (flatE ((insGo x0 E0).map fun e => (e.1, e.2.2.1))) = flatE ((insGo x0 E0).map fun e => (e.1, e.2.2.1)) := setCells_all hlen'.symm
 refine ⟨_, ((insGo x0 E0).map (·.2.2.2)).flatten, hX _ _ _ _ _ (SortX.mk (t := t) (g := g) (k := k) (b := s.b) (o := 0) (n := (E0 ++ [x0]).length) (c := s.cap) (L := (E0 ++ [x0]).map fun e => (e.1, e.2.2.1)) (L' := (insGo x0 E0).map fun e => (e.1, e.2.2.1)) rfl (by simp) (by rw [hv]) hp
  (by rw [hk, hv]) hpb (Nat.le_trans hlo h1) hrp h6 (by omega) (by rw [List.drop_zero, ← hfl, List.take_length, e2]) (by simp) (by simp) (by simpa using hlim) (hperm.map _) (List.pairwise_map.2 hsE)), ?_, ?_, rfl, fun b hb => AH.gPo hb⟩
 ·rw [hset, hins]
  have hG' : (((insGo x0 E0).map (·.2.2.2)).flatten).Perm G := by rw [e3]; exact flatten_perm (hperm.map _)
  rw [es]
  refine .own h1 h2 (fun hm => h3 (hG'.mem_iff.1 hm)) (by simp [insGo_length]) (h5.imp id fun h => ⟨by simp [h.1], by simpa using h.2⟩) ?_ (Reps.ofElems fun e he => ?_)
  ·exact hw ▸ AH.gPs _ _ _
  ·have he' := e4 e (hperm.mem_iff.1 he)
   refine Dat.frame he' fun b hb => ⟨AH.gPo ?_, Dat.bound he' b hb⟩
   intro hbs
   subst hbs
   exact h3 (by rw [e3]; exact List.mem_flatten.2 ⟨_, List.mem_map.2 ⟨e, hperm.mem_iff.1 he, rfl⟩, hb⟩)
 ·rw [e3]; exact flatten_perm (hperm.map _)
end
theorem twoTarget : TwoCells TProgram := fun A x cs F h => by
 obtain ⟨s1, G1, rfl, _⟩ := (rep_Target (x := x)).1 h
 exact ⟨_, rfl⟩
theorem acc_b {α : Type} [Dat α] {lo K : Nat} {A : AH} {s : Sl} {l : List α} {G : List Nat} (h : Acc lo A s l G) (h0 : 0 < K) (h4 : s.nl = true ∨ s.b < K) : s.b < K := by
 rcases h4 with h4 | h4
 ·cases h with
  | nil => exact h0
  | empty => cases h4
  | own => cases h4
 ·exact h4
end Go.AM
