import Derived.Test.YtmelgjblkmbhjaaGreatDoorAmMake
namespace Go.AM
open Go
set_option linter.all false
def SeenOk (x : TSeen) : Prop := NameOk x.1 ∧ x.2.2.size ≤ 2002
theorem goG_seen {σ : Type} {sp : TSpace} {K : Nat} {und : Under σ} (hu : UndOk sp K und) {p : TProgram} (hp : ProgOk p) : ∀ (k : Nat) (t : Tick) (seen : List TSeen) (S : Shop σ) (r : TRes) (l : List TSeen), ShopOk sp S → TickOk t → seen.length ≤ 200 → (∀ a n m, t = .look a n m → seen.length < m.looks) → (∀ x ∈ seen, SeenOk x) →
 (goG und sp p k t seen S).2 = .ok (r, l) → l.length ≤ 200 ∧ ∀ x ∈ l, SeenOk x
 | 0, t, seen, S, r, l, hS, ht, hl, hk, hs, h => by cases h; exact ⟨hl, hs⟩
 | k + 1, .fin c t s, seen, S, r, l, hS, ht, hl, hk, hs, h => by cases h; exact ⟨hl, hs⟩
 | k + 1, .go m, seen, S, r, l, hS, ht, hl, hk, hs, h => ht.elim
 | k + 1, .look a n m, seen, S, r, l, hS, ht, hl, hk, hs, h => by
   have hm := ht.2.1.looks
   have hlt := hk a n m rfl
   unfold goG at h
   by_cases ha : a = false
   ·rw [if_pos ha] at h
    subst ha
    refine goG_seen hu hp k _ _ S r l hS (toldR_ok hp ht (by show 0 ≤ _; omega)) (by rw [List.length_append]; simp only [List.length_cons, List.length_nil]; omega) (fun a' n' m' h' => ?_) (fun x hx => ?_) h
    ·rw [toldR_looks h', List.length_append]; simp only [List.length_cons, List.length_nil]; omega
    ·rcases List.mem_append.1 hx with hx | hx
     ·exact hs x hx
     ·rw [List.mem_singleton.1 hx]; exact ⟨ht.1, by rw [flagS_size]; omega⟩
   ·rw [if_neg ha] at h
    have ha' : a = true := by simpa using ha
    subst ha'
    have w1 := hu.went S n hS ht.1
    have w2 := hu.stack S n
    generalize und S n = g at *
    obtain ⟨S', res⟩ := g
    cases res with
    | error e => cases h
    | ok r' =>
      have hr := (w2 r' hS ht.1 rfl).2
      have hf := formR_size r'.1 r'.2 []
      have h3 := hr.2.2
      refine goG_seen hu hp k _ _ S' r l w1.ok (toldR_ok hp ht hr.2.2) (by rw [List.length_append]; simp only [List.length_cons, List.length_nil]; omega) (fun a' n' m' h' => ?_) (fun x hx => ?_) h
      ·rw [toldR_looks h', List.length_append]; simp only [List.length_cons, List.length_nil]; omega
      ·rcases List.mem_append.1 hx with hx | hx
       ·exact hs x hx
       ·rw [List.mem_singleton.1 hx]; exact ⟨ht.1, by show (formR r'.1 r'.2 []).size ≤ 2002; omega⟩
theorem goR_seen {σ : Type} {sp : TSpace} {K : Nat} {und : Under σ} (hu : UndOk sp K und) {p : TProgram} (hp : ProgOk p) {S : Shop σ} (hS : ShopOk sp S) {r : TRes} {l : List TSeen} (h : (goR und sp p (startR p) [] S).2 = .ok (r, l)) : l.length ≤ 200 ∧ ∀ x ∈ l, SeenOk x :=
 goG_seen hu hp _ _ _ S r l hS (startR_ok hp) (by simp) (fun a n m h => by rw [startR_looks h]; simp) (by simp) h
abbrev CSh := Shop (List (ByteArray × List TSeen))
inductive NilS where
 | mk
instance : Dat NilS where
 w := 1
 rep _ _ cs F := cs = [Sl.nil.v] ∧ F = []
 len h := by rw [h.1]; rfl
 frame h _ := h
 bound h b hb := by rw [h.2] at hb; cases hb
abbrev MRow := ByteArray × (Int × ByteArray × NilS) × List TSeen × Bool
def rowOf (S : CSh) (n : ByteArray) : MRow :=
 match lookL n S.made with
 | some r => (n, (r.1, r.2, .mk), (lookL n S.ext).getD [], true)
 | none => (n, (0, ⟨#[]⟩, .mk), [], false)
def rowsOf (S : CSh) : List MRow := S.asked.map (rowOf S)
theorem rowsOf_len (S : CSh) : (rowsOf S).length = S.asked.length := by simp [rowsOf]
theorem rowOf_name (S : CSh) (n : ByteArray) : (rowOf S n).1 = n := by unfold rowOf; cases lookL n S.made <;> rfl
theorem rowOf_done (S : CSh) (n : ByteArray) : (rowOf S n).2.2.2 = (lookL n S.made).isSome := by unfold rowOf; cases lookL n S.made <;> rfl
theorem rowsOf_get (S : CSh) {i : Nat} (h : i < (rowsOf S).length) : (rowsOf S)[i] = rowOf S (S.asked[i]'(by rw [rowsOf_len] at h; exact h)) := by simp [rowsOf]
theorem cleanMk_eq (sp : TSpace) (und : Under (List (ByteArray × List TSeen))) (S : CSh) (n : ByteArray) (p : TProgram) : cleanMk sp und S n p = match goR und sp p (startR p) [] S with
 | (S', .error e) => (S', .error e)
 | (S', .ok (r, seen)) => (⟨S'.asked, S'.made, S'.stack, S'.ext ++ [(n, seen)]⟩, .ok r) := rfl
structure InvS (sp : TSpace) (S : CSh) : Prop where
 nodup : S.asked.Nodup
 made : ∀ n r, lookL n S.made = some r → n ∈ S.asked
 ext : ∀ n, lookL n S.made = none → lookL n S.ext = none
 miss : ∀ n r, lookL n S.made = some r → hasR sp n = false → r.1 = 4
 uniq : (S.ext.map (·.1)).Nodup
 looks : ∀ x ∈ S.ext, x.2.length ≤ 200 ∧ ∀ y ∈ x.2, SeenOk y
structure Goes (sp : TSpace) (S S' : CSh) : Prop where
 inv : InvS sp S'
 pre : S.asked <+: S'.asked
theorem InvS.shop0 (sp : TSpace) : InvS sp shop0 := ⟨List.nodup_nil, (fun n r h => by cases h), (fun n h => rfl), (fun n r h => by cases h), List.nodup_nil, (fun x h => by cases h)⟩
section
variable {sp : TSpace} {S S' S'' : CSh}
theorem Goes.refl (h : InvS sp S) : Goes sp S S := ⟨h, List.prefix_refl _⟩
theorem Goes.trans (h : Goes sp S S') (k : Goes sp S' S'') : Goes sp S S'' := ⟨k.inv, h.pre.trans k.pre⟩
theorem idxL_some {n : ByteArray} : ∀ {l : List ByteArray} {i : Nat}, idxL n l = some i → i < l.length ∧ l[i]? = some n ∧ n ∈ l
 | [], i, h => by cases h
 | x :: l, i, h => by
   unfold idxL at h
   split at h
   ·rename_i hx; cases h; subst hx; exact ⟨by simp, by simp, by simp⟩
   ·cases hq : idxL n l with
    | none => rw [hq] at h; cases h
    | some j =>
      rw [hq] at h; cases h
      obtain ⟨h1, h2, h3⟩ := idxL_some hq
      exact ⟨by simpa using h1, by simpa using h2, List.mem_cons_of_mem _ h3⟩
theorem askS_mem (S : CSh) (n : ByteArray) : n ∈ (askS S n).asked := by
 unfold askS
 cases h : idxL n S.asked with
 | none => simp
 | some i => simp only [Option.isSome_some, if_true]; exact (idxL_some h).2.2
theorem askS_inv (h : InvS sp S) (n : ByteArray) : Goes sp S (askS S n) := by
 unfold askS
 cases hi : idxL n S.asked with
 | some i => simp only [Option.isSome_some, if_true]; exact .refl h
 | none =>
   simp only [Option.isSome_none, Bool.false_eq_true, if_false]
   have hn := idxL_none hi
   refine ⟨⟨?_, fun m r hm => List.mem_append_left _ (h.made m r hm), h.ext, h.miss, h.uniq, h.looks⟩, List.prefix_append _ _⟩
   rw [List.nodup_append]
   exact ⟨h.nodup, by simp, fun a ha b hb => by rw [List.mem_singleton.1 hb]; rintro rfl; exact hn ha⟩
theorem madeS_inv (h : InvS sp S) {n : ByteArray} {r : TRes} (hn : n ∈ S.asked) (hl : lookL n S.made = none) (hm : hasR sp n = false → r.1 = 4) (l : List ByteArray) : InvS sp ⟨S.asked, S.made ++ [(n, r)], l, S.ext⟩ := by
 refine ⟨h.nodup, fun m q hq => ?_, fun m hq => ?_, fun m q hq hh => ?_, h.uniq, h.looks⟩
 ·rw [lookL_snoc] at hq
  by_cases e : n = m
  ·subst e; exact hn
  ·cases hk : lookL m S.made with
   | some x => exact h.made m x hk
   | none => rw [hk] at hq; simp [e] at hq
 ·rw [lookL_snoc] at hq
  cases hk : lookL m S.made with
  | some x => rw [hk] at hq; cases hq
  | none => exact h.ext m hk
 ·rw [lookL_snoc] at hq
  cases hk : lookL m S.made with
  | some x => rw [hk] at hq; cases hq; exact h.miss m _ hk hh
  | none =>
    rw [hk] at hq
    by_cases e : n = m
    ·subst e; simp only [if_true] at hq; cases hq; exact hm hh
    ·simp [e] at hq
theorem lookL_no {α : Type} {n : ByteArray} : ∀ {l : List (ByteArray × α)}, lookL n l = none → n ∉ l.map (·.1) := lookL_none
theorem madeX_uniq (h : InvS sp S) {n : ByteArray} {seen : List TSeen} (hl : lookL n S.made = none) : ((S.ext ++ [(n, seen)]).map (·.1)).Nodup := by
 rw [List.map_append, List.nodup_append]
 refine ⟨h.uniq, by simp, fun a ha b hb => ?_⟩
 simp only [List.map_cons, List.map_nil, List.mem_singleton] at hb
 rw [hb]
 rintro rfl
 exact lookL_no (h.ext _ hl) ha
theorem madeX_inv (h : InvS sp S) {n : ByteArray} {r : TRes} {seen : List TSeen} (hse : seen.length ≤ 200 ∧ ∀ y ∈ seen, SeenOk y) (hn : n ∈ S.asked) (hl : lookL n S.made = none) (hm : hasR sp n = false → r.1 = 4) (l : List ByteArray) : InvS sp ⟨S.asked, S.made ++ [(n, r)], l, S.ext ++ [(n, seen)]⟩ := by
 have k := madeS_inv h hn hl hm l
 refine ⟨k.nodup, k.made, fun m hq => ?_, k.miss, madeX_uniq h hl, fun x hx => ?_⟩
 rotate_left
 ·rcases List.mem_append.1 hx with hx | hx
  ·exact h.looks x hx
  ·rw [List.mem_singleton.1 hx]; exact hse
 have h1 := k.ext m hq
 show lookL m (S.ext ++ [(n, seen)]) = none
 rw [lookL_snoc, show lookL m S.ext = none from h1]
 have hq' : lookL m (S.made ++ [(n, r)]) = none := hq
 rw [lookL_snoc] at hq'
 by_cases e : n = m
 ·subst e; rw [hl] at hq'; simp at hq'
 ·simp [e]
structure UndG (sp : TSpace) (und : Under (List (ByteArray × List TSeen))) : Prop where
 goes : ∀ S n, InvS sp S → ShopOk sp S → NameOk n → Goes sp S (und S n).1
 miss : ∀ S n r, InvS sp S → ShopOk sp S → NameOk n → (und S n).2 = .ok r → hasR sp n = false → r.1 = 4
 mem : ∀ S n, InvS sp S → ShopOk sp S → NameOk n → n ∈ (und S n).1.asked
theorem goG_goes {K : Nat} {und : Under (List (ByteArray × List TSeen))} (hu : UndOk sp K und) (hg : UndG sp und) {p : TProgram} (hp : ProgOk p) : ∀ (k : Nat) (t : Tick) (seen : List TSeen) (S : CSh), InvS sp S → ShopOk sp S → TickOk t → Goes sp S (goG und sp p k t seen S).1
 | 0, t, seen, S, hI, hS, ht => .refl hI
 | k + 1, .fin c t s, seen, S, hI, hS, ht => .refl hI
 | k + 1, .go m, seen, S, hI, hS, ht => ht.elim
 | k + 1, .look a n m, seen, S, hI, hS, ht => by
   unfold goG
   by_cases ha : a = false
   ·rw [if_pos ha]
    subst ha
    exact goG_goes hu hg hp k _ _ S hI hS (toldR_ok hp ht (by show 0 ≤ _; omega))
   ·rw [if_neg ha]
    have ha' : a = true := by simpa using ha
    subst ha'
    have w1 := hu.went S n hS ht.1
    have w2 := hu.stack S n
    have w3 := hg.goes S n hI hS ht.1
    generalize und S n = g at *
    obtain ⟨S', res⟩ := g
    cases res with
    | error e => exact w3
    | ok r => exact w3.trans (goG_goes hu hg hp k _ _ S' w3.inv w1.ok (toldR_ok hp ht (w2 r hS ht.1 rfl).2.2.2))
theorem goR_goes {K : Nat} {und : Under (List (ByteArray × List TSeen))} (hu : UndOk sp K und) (hg : UndG sp und) {p : TProgram} (hp : ProgOk p) {t : Tick} (ht : TickOk t) (seen : List TSeen) (hI : InvS sp S) (hS : ShopOk sp S) : Goes sp S (goR und sp p t seen S).1 := goG_goes hu hg hp _ t seen S hI hS ht
theorem has_tgt {n : ByteArray} {p : TProgram} (h : tgtR sp n = some p) : hasR sp n = true := by unfold hasR; rw [h]; simp
theorem has_src {n : ByteArray} {t : ByteArray} (h : srcR sp n = some t) : hasR sp n = true := by unfold hasR; rw [h]; simp
theorem under_goes (hsp : SpOk sp) {d : Nat} (ih : ∀ e, d = e + 1 → UndG sp (underG (cleanMk sp) sp e)) : UndG sp (underG (cleanMk sp) sp d) := by
 have key : ∀ S0 n, InvS sp S0 → ShopOk sp S0 → NameOk n → Goes sp S0 (underG (cleanMk sp) sp d S0 n).1 ∧ ∀ r, (underG (cleanMk sp) sp d S0 n).2 = .ok r → hasR sp n = false → r.1 = 4 := by
  intro S0 n hI0 h0 hn
  have g0 := askS_inv hI0 n
  have hS := askS_ok h0 n
  have hmem := askS_mem S0 n
  unfold underG
  simp only
  generalize askS S0 n = S at *
  cases hl : lookL n S.made with
  | some r => exact ⟨g0, fun r' h hh => by cases h; exact g0.inv.miss n r hl hh⟩
  | none =>
    simp only
    cases hs : srcR sp n with
    | some t => exact ⟨⟨madeS_inv g0.inv hmem hl (fun h => by rw [has_src hs] at h; cases h) S.stack, g0.pre⟩, fun r' h hh => by rw [has_src hs] at hh; cases hh⟩
    | none =>
      simp only
      cases ht : tgtR sp n with
      | none => exact ⟨⟨madeS_inv g0.inv hmem hl (fun h => rfl) S.stack, g0.pre⟩, fun r' h hh => by cases h; rfl⟩
      | some p =>
        simp only
        refine ⟨?_, fun r' h hh => by rw [has_tgt ht] at hh; cases hh⟩
        cases hi : idxL n S.stack with
        | some i => exact g0
        | none =>
          simp only
          cases d with
          | zero => exact g0
          | succ d =>
            simp only
            obtain ⟨hP, hPl⟩ := pushS_ok hS hl ht hi
            have hu := underG_ok hsp (cleanMk_ok (sp := sp)) d
            have hI : InvS sp (pushS S n) := ⟨g0.inv.nodup, g0.inv.made, g0.inv.ext, g0.inv.miss, g0.inv.uniq, g0.inv.looks⟩
            have w := goR_goes hu (ih d rfl) (hsp.prog ht) (startR_ok (hsp.prog ht)) [] hI hP
            obtain ⟨w1, w2⟩ := goR_ok hu (hsp.prog ht) (startR_ok (hsp.prog ht)) [] hP
            have w3 := fun r l => goR_seen (r := r) (l := l) hu (hsp.prog ht) hP
            rw [cleanMk_eq]
            generalize goR (underG (cleanMk sp) sp d) sp p (startR p) [] (pushS S n) = g at *
            obtain ⟨S2, res⟩ := g
            cases res with
            | error e => exact ⟨w.inv, g0.pre.trans w.pre⟩
            | ok x =>
              obtain ⟨r, l⟩ := x
              have hst := (w2 r l rfl).1
              have hn2 : n ∈ S2.stack := by rw [hst]; show n ∈ S.stack ++ [n]; simp
              have hpre : S.asked <+: S2.asked := w.pre
              exact ⟨madeX_inv w.inv (w3 r l rfl) (hpre.subset hmem) (stack_unmade w1.ok hn2) (fun h => by rw [has_tgt ht] at h; cases h) _, g0.pre.trans hpre⟩
 have mem : ∀ S0 n, InvS sp S0 → ShopOk sp S0 → NameOk n → n ∈ (underG (cleanMk sp) sp d S0 n).1.asked := by
  intro S0 n hI0 h0 hn
  have g0 := askS_inv hI0 n
  have hS := askS_ok h0 n
  have hmem := askS_mem S0 n
  unfold underG
  simp only
  generalize askS S0 n = S at *
  cases hl : lookL n S.made with
  | some r => exact hmem
  | none =>
    simp only
    cases hs : srcR sp n with
    | some t => exact hmem
    | none =>
      simp only
      cases ht : tgtR sp n with
      | none => exact hmem
      | some p =>
        simp only
        cases hi : idxL n S.stack with
        | some i => exact hmem
        | none =>
          simp only
          cases d with
          | zero => exact hmem
          | succ d =>
            simp only
            obtain ⟨hP, hPl⟩ := pushS_ok hS hl ht hi
            have hu := underG_ok hsp (cleanMk_ok (sp := sp)) d
            have hI : InvS sp (pushS S n) := ⟨g0.inv.nodup, g0.inv.made, g0.inv.ext, g0.inv.miss, g0.inv.uniq, g0.inv.looks⟩
            have w := goR_goes hu (ih d rfl) (hsp.prog ht) (startR_ok (hsp.prog ht)) [] hI hP
            rw [cleanMk_eq]
            generalize goR (underG (cleanMk sp) sp d) sp p (startR p) [] (pushS S n) = g at *
            obtain ⟨S2, res⟩ := g
            have hpre : S.asked <+: S2.asked := w.pre
            cases res with
            | error e => exact hpre.subset hmem
            | ok x => exact hpre.subset hmem
 exact ⟨fun S n h1 h2 h3 => (key S n h1 h2 h3).1, fun S n r h1 h2 h3 => (key S n h1 h2 h3).2 r, mem⟩
theorem underG_goes (hsp : SpOk sp) : ∀ d, UndG sp (underG (cleanMk sp) sp d)
 | 0 => under_goes hsp fun e h => by omega
 | d + 1 => under_goes hsp fun e h => by cases h; exact underG_goes hsp d
end
theorem Asc.all : ∀ {l : List ByteArray}, Asc l → l.Pairwise slt
 | [], _ => .nil
 | [x], _ => by simp
 | a :: b :: r, h => by
   have k := Asc.all h.2
   refine List.pairwise_cons.2 ⟨fun y hy => ?_, k⟩
   rcases List.mem_cons.1 hy with rfl | hy
   ·exact h.1
   ·exact slt_trans h.1 ((List.pairwise_cons.1 k).1 y hy)
theorem Asc.nodup {l : List ByteArray} (h : Asc l) : l.Nodup := h.all.imp fun {a b} h e => by subst e; exact slt_irrefl _ h
structure SpaceFine (sp : TSpace) : Prop where
 ok : SpOk sp
 l1 : sp.1.length ≤ 200
 l2 : sp.2.length ≤ 200
 n1 : (sp.1.map (·.1)).Nodup
 n2 : (sp.2.map (·.1)).Nodup
 names : ∀ x ∈ sp.2, NameOk x.1
theorem spaceFine {sp : TSpace} (h : spaceCode sp = 0) : SpaceFine sp := by
 unfold spaceCode at h
 split at h
 ·cases h
 ·split at h
  ·cases h
  ·rename_i h1
   split at h
   ·cases h
   ·rename_i h2
    split at h
    ·cases h
    ·rename_i h3
     split at h
     ·cases h
     ·rename_i h4
      split at h
      ·cases h
      ·rename_i h5
       split at h
       ·cases h
       ·rename_i h6
        simp only [Decidable.not_not] at h1 h2 h3 h4 h5 h6
        refine ⟨⟨h5, h6, fun n t ht => ?_⟩, by omega, by omega, h2.nodup, h3.nodup, h1.2⟩
        cases hq : tgtR sp n with
        | none => rfl
        | some p => exact (h4 _ (lookL_mem hq) _ (lookL_mem ht) rfl).elim
section
variable {σ : Type} {sp : TSpace} {E : Stop → Prop}
end
section
variable {sp : TSpace} {S S' S'' : CSh}
theorem rowsOf_ask {n : ByteArray} (h : InvS sp S) (hn : idxL n S.asked = none) : rowsOf (askS S n) = rowsOf S ++ [(n, (0, ⟨#[]⟩, .mk), [], false)] := by
 have hl : lookL n S.made = none := by
  cases hl : lookL n S.made with
  | none => rfl
  | some r => exact (idxL_none hn (h.made n r hl)).elim
 unfold askS rowsOf
 rw [hn]
 simp only [Option.isSome_none, Bool.false_eq_true, if_false, List.map_append, List.map_cons, List.map_nil]
 congr 1
 unfold rowOf
 simp only [hl]
theorem rowsOf_asked {n : ByteArray} (hn : idxL n S.asked ≠ none) : askS S n = S := by
 unfold askS
 cases h : idxL n S.asked with
 | none => exact (hn h).elim
 | some i => simp
theorem rowsOf_set {T : CSh} {n : ByteArray} {k : Nat} (hn : S.asked.Nodup) (hk : idxL n S.asked = some k) (ha : T.asked = S.asked) (ho : ∀ m, m ≠ n → rowOf T m = rowOf S m) : rowsOf T = (rowsOf S).set k (rowOf T n) := by
 obtain ⟨h1, h2, h3⟩ := idxL_some hk
 unfold rowsOf
 rw [ha]
 refine List.ext_getElem? fun i => ?_
 rw [List.getElem?_set]
 by_cases e : k = i
 ·subst e
  simp only [if_true, List.length_map, h1, List.getElem?_map, h2, Option.map_some]
 ·rw [if_neg e]
  simp only [List.getElem?_map]
  cases hi : S.asked[i]? with
  | none => rfl
  | some m =>
    simp only [Option.map_some, Option.some.injEq]
    refine ho m fun e2 => e ?_
    subst e2
    obtain ⟨hi1, hi2⟩ := List.getElem?_eq_some_iff.1 hi
    obtain ⟨hk1, hk2⟩ := List.getElem?_eq_some_iff.1 h2
    exact (List.getElem_inj hn).1 (hk2.trans hi2.symm)
theorem rowOf_other {n m : ByteArray} {r : TRes} {l : List ByteArray} {x : List (ByteArray × List TSeen)} (h : m ≠ n) (hx : lookL m x = lookL m S.ext) : rowOf ⟨S.asked, S.made ++ [(n, r)], l, x⟩ m = rowOf S m := by
 unfold rowOf
 have e : ¬ n = m := fun e => h e.symm
 show (match lookL m (S.made ++ [(n, r)]) with | some r => _ | none => _) = _
 rw [lookL_snoc]
 cases hm : lookL m S.made with
 | none => simp [e]
 | some q => simp only; rw [show lookL m (Shop.ext ⟨S.asked, S.made ++ [(n, r)], l, x⟩) = lookL m x from rfl, hx]
theorem rowOf_this {n : ByteArray} {r : TRes} {l : List ByteArray} {x : List (ByteArray × List TSeen)} (h : lookL n S.made = none) : rowOf ⟨S.asked, S.made ++ [(n, r)], l, x⟩ n = (n, (r.1, r.2, .mk), (lookL n x).getD [], true) := by
 unfold rowOf
 show (match lookL n (S.made ++ [(n, r)]) with | some r => _ | none => _) = _
 rw [lookL_snoc, h]
 simp
theorem rowsOf_stack (l : List ByteArray) : rowsOf ⟨S.asked, S.made, l, S.ext⟩ = rowsOf S := rfl
theorem rowsOf_madeS {n : ByteArray} {r : TRes} {k : Nat} (h : InvS sp S) (hk : idxL n S.asked = some k) (hl : lookL n S.made = none) : rowsOf (madeS S n r) = (rowsOf S).set k (n, (r.1, r.2, .mk), [], true) := by
 have := rowsOf_set (T := madeS S n r) h.nodup hk rfl fun m hm => rowOf_other hm rfl
 rw [this]
 congr 1
 have e := rowOf_this (S := S) (n := n) (r := r) (l := S.stack) (x := S.ext) hl
 rw [h.ext n hl] at e
 exact e
theorem rowsOf_madeX {n : ByteArray} {r : TRes} {k : Nat} {seen : List TSeen} {l : List ByteArray} (h : InvS sp S) (hk : idxL n S.asked = some k) (hl : lookL n S.made = none) : rowsOf ⟨S.asked, S.made ++ [(n, r)], l, S.ext ++ [(n, seen)]⟩ = (rowsOf S).set k (n, (r.1, r.2, .mk), seen, true) := by
 have hx : ∀ m, m ≠ n → lookL m (S.ext ++ [(n, seen)]) = lookL m S.ext := fun m hm => by
  rw [lookL_snoc]
  have e : ¬ n = m := fun e => hm e.symm
  cases lookL m S.ext <;> simp [e]
 have := rowsOf_set (T := ⟨S.asked, S.made ++ [(n, r)], l, S.ext ++ [(n, seen)]⟩) h.nodup hk rfl fun m hm => rowOf_other hm (hx m hm)
 rw [this]
 congr 1
 rw [rowOf_this hl, lookL_snoc, h.ext n hl]
 simp
theorem idxL_app {n : ByteArray} {k : Nat} (t : List ByteArray) : ∀ {l : List ByteArray}, idxL n l = some k → idxL n (l ++ t) = some k := by
 intro l
 induction l generalizing k with
 | nil => intro h; cases h
 | cons x l ih =>
   intro h
   unfold idxL at h
   rw [List.cons_append, idxL]
   split at h
   ·rename_i hx; rw [if_pos hx]; exact h
   ·rename_i hx
    rw [if_neg hx]
    cases hq : idxL n l with
    | none => rw [hq] at h; cases h
    | some j => rw [ih hq]; rw [hq] at h; exact h
theorem idxL_pre {n : ByteArray} {k : Nat} {l l' : List ByteArray} (h : l <+: l') (hk : idxL n l = some k) : idxL n l' = some k := by
 obtain ⟨t, rfl⟩ := h
 exact idxL_app t hk
theorem idxL_snoc {n : ByteArray} {l : List ByteArray} (h : idxL n l = none) : idxL n (l ++ [n]) = some l.length := by
 have key : ∀ l : List ByteArray, idxL n l = none → idxL n (l ++ [n]) = some l.length := by
  intro l
  induction l with
  | nil => intro _; simp [idxL]
  | cons x l ih =>
    intro h
    unfold idxL at h
    split at h
    ·cases h
    ·rename_i hx
     have h' : idxL n l = none := by
      cases hq : idxL n l with
      | none => rfl
      | some i => rw [hq] at h; cases h
     rw [List.cons_append, idxL, if_neg hx, ih h']
     simp
 exact key l h
end
end Go.AM
namespace Go.AM
open Go
set_option linter.all false
theorem rep_MRow {A : AH} {x : MRow} {cs : List Value} {F : List Nat} : Dat.rep A x cs F ↔ ∃ (s2 : Sl), cs = [.string x.1, .int .i64 x.2.1.1, .string x.2.1.2.1, Sl.nil.v, s2.v, .bool x.2.2.2] ∧ x.1.size < BIG ∧ x.2.1.2.1.size < BIG ∧ SlR A s2 x.2.2.1 F := by
 constructor
 ·rintro ⟨_, _, _, _, rfl, rfl, ⟨rfl, rfl, z1⟩, ⟨_, _, _, _, rfl, rfl, ⟨_, _, _, _, rfl, rfl, ⟨rfl, rfl⟩, ⟨_, _, _, _, rfl, rfl, ⟨rfl, rfl, z2⟩, ⟨rfl, rfl⟩⟩⟩, ⟨_, _, _, _, rfl, rfl, ⟨s2, rfl, h2⟩, ⟨rfl, rfl⟩⟩⟩⟩
  exact ⟨s2, rfl, z1, z2, by simpa using h2⟩
 ·rintro ⟨s2, rfl, z1, z2, h2⟩
  exact ⟨[.string x.1], _, [], F, rfl, by simp, ⟨rfl, rfl, z1⟩, ⟨[.int .i64 x.2.1.1, .string x.2.1.2.1, Sl.nil.v], [s2.v, .bool x.2.2.2], [], F, rfl, rfl, ⟨[.int .i64 x.2.1.1], _, [], [], rfl, by simp, ⟨rfl, rfl⟩, ⟨[.string x.2.1.2.1], [Sl.nil.v], [], [], rfl, by simp, ⟨rfl, rfl, z2⟩, ⟨rfl, rfl⟩⟩⟩, ⟨[s2.v], [.bool x.2.2.2], F, [], rfl, by simp, ⟨s2, rfl, h2⟩, ⟨rfl, rfl⟩⟩⟩⟩
theorem Acc.focus {α : Type} [Dat α] {lo : Nat} {A : AH} {s : Sl} {l : List α} {G : List Nat} (h : Acc lo A s l G) {i : Nat} (hi : i < l.length) :
 ∃ c G1 Fi G2 c1 ci c2, s.nl = false ∧ s.o = 0 ∧ lo ≤ s.b ∧ s.b < A.size ∧ i < s.len ∧ A.get s.b = .cells c (Dat.w α) ∧ G = G1 ++ (Fi ++ G2) ∧ c = c1 ++ (ci ++ c2) ∧ c1.length = i * Dat.w α ∧ Dat.rep A l[i] ci Fi ∧
   ∀ (A' : AH) (x' : α) (ci' : List Value) (Fi' : List Nat), A'.get s.b = .cells (c1 ++ (ci' ++ c2)) (Dat.w α) → A.size ≤ A'.size → s.b ∉ Fi' → (∀ b ∈ G1 ++ G2, A'.get b = A.get b) → Dat.rep A' x' ci' Fi' → Acc lo A' s (l.set i x') (G1 ++ (Fi' ++ G2)) := by
 cases h with
 | nil => simp at hi
 | empty => simp at hi
 | @own b n c cs l G h1 h2 h3 h4 h5 h6 h7 =>
   have hbd := h7.bound
   obtain ⟨G1, Fi, G2, c1, ci, c2, rfl, e2, e3, e4, e5⟩ := h7.focus i hi
   refine ⟨cs, G1, Fi, G2, c1, ci, c2, rfl, rfl, h1, h2, by rw [h4]; exact hi, h6, rfl, e2, e3, e4, fun A' x' ci' Fi' k1 k2 k3 k4 k5 => ?_⟩
   refine .own h1 (by omega) (fun hm => ?_) (by simpa using h4) h5 k1 (e5 A' x' ci' Fi' (fun b hb => ⟨k4 b hb, ?_⟩) k5)
   ·rcases List.mem_append.1 hm with hm | hm
    ·exact h3 (List.mem_append_left _ hm)
    ·rcases List.mem_append.1 hm with hm | hm
     ·exact k3 hm
     ·exact h3 (List.mem_append_right _ (List.mem_append_right _ hm))
   ·have := hbd b (by rcases List.mem_append.1 hb with hb | hb <;> simp [hb]); omega
theorem Acc.row {α : Type} [Dat α] {lo : Nat} {A : AH} {s : Sl} {l : List α} {G : List Nat} (h : Acc lo A s l G) (hl : l ≠ []) : s.nl = false ∧ lo ≤ s.b ∧ s.b < A.size ∧ ∃ c, A.get s.b = .cells c (Dat.w α) := by
 cases h with
 | nil => exact (hl rfl).elim
 | empty => exact (hl rfl).elim
 | own h1 h2 h3 h4 h5 h6 h7 => exact ⟨rfl, h1, h2, _, h6⟩
theorem cells_ne {A : AH} {b b' : Nat} {c c' : List Value} {e e' : Nat} (h : A.get b = .cells c e) (h' : A.get b' = .cells c' e') (hne : e ≠ e') : b ≠ b' := by
 rintro rfl
 rw [h] at h'
 cases h'
 exact hne rfl
theorem nofoot_Seen {A : AH} {x : TSeen} {cs F} (h : Dat.rep A x cs F) : F = [] := (rep_Seen.1 h).2.1
theorem SlR.rows {α : Type} [Dat α] (hα : ∀ {A : AH} {x : α} {cs F}, Dat.rep A x cs F → F = []) {A : AH} {s : Sl} {l : List α} {F : List Nat} (h : SlR A s l F) : ∀ b ∈ F, ∃ c, A.get b = .cells c (Dat.w α) := by
 intro b hb
 cases h with
 | nil _ _ hf => rw [hf] at hb; cases hb
 | empty _ _ _ _ hf => rw [hf] at hb; cases hb
 | inB h =>
   obtain ⟨h1, h2, h3, h4, c, cs, G, h5, h6, h7, h8, rfl⟩ := h
   rw [h8.nofoot hα] at hb
   rw [List.mem_singleton.1 hb]
   exact ⟨c, h5⟩
theorem RunC.norm {P : Program} {ro : Nat} {X : FuncId → List Value → AH → ARes → AH → Prop} {a : Code} {Q : Post} {e : Env} {A : AH} (h : RunC P ro X a (fun x e A => x = .normal ∧ Q .normal e A) e A) : RunC P ro X a Q e A :=
 RunC.mono a (fun x e A hx => by
  obtain ⟨rfl, h⟩ := hx
  exact h) e A h
theorem cellK_mid {c1 ci c2 : List Value} {e o : Nat} (h : c1.length = o) (j : Nat) (hj : j < ci.length) : cellK (o + j) (.cells (c1 ++ (ci ++ c2)) e) = ci[j]? := by
 subst h
 show (c1 ++ (ci ++ c2))[c1.length + j]? = _
 rw [List.getElem?_append_right (by omega), Nat.add_sub_cancel_left, List.getElem?_append_left hj]
theorem rowK_mid {c1 ci c2 : List Value} {e o : Nat} (h : c1.length = o) (j n : Nat) (hj : j + n ≤ ci.length) : rowK (o + j) n (.cells (c1 ++ (ci ++ c2)) e) = some ((ci.drop j).take n) := by
 subst h
 unfold rowK
 simp only [List.length_append]
 rw [if_pos (by omega), ← List.drop_drop, List.drop_left, List.drop_append_of_le_length (by omega), List.take_append_of_le_length (by rw [List.length_drop]; omega)]
theorem setCells_mid {c2 : List Value} : ∀ (vs c1 ci : List Value) (o j : Nat), c1.length = o → j + vs.length ≤ ci.length → setCells (c1 ++ (ci ++ c2)) (o + j) vs = c1 ++ (setCells ci j vs ++ c2)
 | [], c1, ci, o, j, h, hj => rfl
 | v :: vs, c1, ci, o, j, h, hj => by
   subst h
   simp only [List.length_cons] at hj
   rw [setCells, setCells, List.set_append_right _ _ (by omega), Nat.add_sub_cancel_left, List.set_append_left _ _ (by omega)]
   rw [show c1.length + j + 1 = c1.length + (j + 1) from by omega]
   exact setCells_mid vs c1 (ci.set j v) _ (j + 1) rfl (by simp; omega)
def idxI (n : ByteArray) (l : List ByteArray) : Int := match idxL n l with | some i => i | none => -1
structure Skc where
 B : AH
 p : Nat
 s1 : Sl
 s2 : Sl
 sp : TSpace
def scV (K : Skc) (md st : Sl) (x : TResult) (ch : Sl) (dead : Bool) : List Value := [K.s1.v, K.s2.v, md.v, st.v, .int .i64 x.1, .string x.2.1, ch.v, .bool dead]
structure SpV (K : Skc) (A : AH) (S : CSh) (md st : Sl) (G : List Nat) (x : TResult) (ch : Sl) (dead : Bool) : Prop where
 base : Ext K.B A
 pos : 0 < K.B.size
 p0 : K.B.size ≤ K.p
 p1 : K.p < A.size
 src : ∃ F, SlR K.B K.s1 K.sp.1 F
 tgt : ∃ F, SlR K.B K.s2 K.sp.2 F
 gp : A.get K.p = .cells (scV K md st x ch dead) 8
 smd : Acc K.B.size A md (rowsOf S) G
 mrow : md.nl = false → K.B.size ≤ md.b ∧ md.b < A.size ∧ ∃ c, A.get md.b = .cells c 6
 sst : Stk K.B.size A st S.stack
 g3 : ∀ b ∈ G, K.B.size ≤ b ∧ ∃ c, A.get b = .cells c 3
def ftpS (K : Skc) (md st : Sl) (G : List Nat) : List Nat := K.p :: (own md ++ (own st ++ G))
theorem mem_ftpS {K : Skc} {md st : Sl} {G : List Nat} {b : Nat} : b ∈ ftpS K md st G ↔ b = K.p ∨ (md.nl = false ∧ b = md.b) ∨ (st.nl = false ∧ b = st.b) ∨ b ∈ G := by
 unfold ftpS
 simp only [List.mem_append, List.mem_cons, mem_own]
section
variable {K : Skc} {A A' A1 : AH} {S S' : CSh} {md st md' st' : Sl} {G G' : List Nat} {x x' : TResult} {ch ch' : Sl} {dead dead' : Bool}
theorem Stk.row {lo : Nat} {s : Sl} {l : List ByteArray} (h : Stk lo A s l) (hn : s.nl = false) : ∃ c, A.get s.b = .cells c 1 := by
 rcases h with ⟨rfl, _⟩ | ⟨_, _, _, _, _, c, hc, _⟩
 ·cases hn
 ·exact ⟨c, hc⟩
theorem SpV.apart (h : SpV K A S md st G x ch dead) : (md.nl = false → md.b ≠ K.p) ∧ (st.nl = false → st.b ≠ K.p) ∧ (md.nl = false → st.nl = false → md.b ≠ st.b) ∧ (∀ b ∈ G, b ≠ K.p ∧ (md.nl = false → b ≠ md.b) ∧ (st.nl = false → b ≠ st.b)) ∧ (md.nl = true → md.b = 0) := by
 refine ⟨fun hn => ?_, fun hn => ?_, fun hn hm => ?_, fun b hb => ⟨?_, fun hn => ?_, fun hn => ?_⟩, fun hn => h.smd.nl_b hn⟩
 ·obtain ⟨_, _, c, hc⟩ := h.mrow hn; exact cells_ne hc h.gp (by decide)
 ·obtain ⟨c, hc⟩ := h.sst.row hn; exact cells_ne hc h.gp (by decide)
 ·obtain ⟨_, _, c, hc⟩ := h.mrow hn; obtain ⟨c', hc'⟩ := h.sst.row hm; exact cells_ne hc hc' (by decide)
 ·obtain ⟨_, c, hc⟩ := h.g3 b hb; exact cells_ne hc h.gp (by decide)
 ·obtain ⟨_, c, hc⟩ := h.g3 b hb; obtain ⟨_, _, c', hc'⟩ := h.mrow hn; exact cells_ne hc hc' (by decide)
 ·obtain ⟨_, c, hc⟩ := h.g3 b hb; obtain ⟨c', hc'⟩ := h.sst.row hn; exact cells_ne hc hc' (by decide)
theorem SpV.bound (h : SpV K A S md st G x ch dead) : ∀ b ∈ ftpS K md st G, K.B.size ≤ b ∧ b < A.size := by
 intro b hb
 rcases mem_ftpS.1 hb with rfl | ⟨hn, rfl⟩ | ⟨hn, rfl⟩ | hb
 ·exact ⟨h.p0, h.p1⟩
 ·obtain ⟨k1, k2, _⟩ := h.mrow hn; exact ⟨k1, k2⟩
 ·exact h.sst.bd hn
 ·exact ⟨(h.g3 b hb).1, h.smd.bound b hb⟩
theorem SpV.frame (h : SpV K A S md st G x ch dead) (hz : A.size ≤ A'.size) (hg : ∀ b, b < A.size → (b < K.B.size ∨ b ∈ ftpS K md st G) → A'.get b = A.get b) : SpV K A' S md st G x ch dead := by
 have hbs := h.base.size
 have hp : ∀ b ∈ ftpS K md st G, A'.get b = A.get b := fun b hb => hg b (h.bound b hb).2 (.inr hb)
 refine ⟨⟨by omega, fun b hb => (hg b (by omega) (.inl hb)).trans (h.base.get b hb)⟩, h.pos, h.p0, by have := h.p1; omega, h.src, h.tgt, (hp _ (mem_ftpS.2 (.inl rfl))).trans h.gp, h.smd.frame hz (fun b hb hm => ?_), fun hn => ?_, h.sst.frame hz fun hn => hp _ (mem_ftpS.2 (.inr (.inr (.inl ⟨hn, rfl⟩)))), fun b hb => ?_⟩
 ·rcases hm with ⟨k1, k2, rfl⟩ | hm
  ·exact hp _ (mem_ftpS.2 (.inr (.inl ⟨k1, rfl⟩)))
  ·exact hp _ (mem_ftpS.2 (.inr (.inr (.inr hm))))
 ·obtain ⟨k1, k2, c, k3⟩ := h.mrow hn
  exact ⟨k1, by omega, c, (hp _ (mem_ftpS.2 (.inr (.inl ⟨hn, rfl⟩)))).trans k3⟩
 ·obtain ⟨k1, c, k2⟩ := h.g3 b hb
  exact ⟨k1, c, (hp _ (mem_ftpS.2 (.inr (.inr (.inr hb))))).trans k2⟩
theorem SpV.ext (h : SpV K A S md st G x ch dead) (hE : Ext A A') : SpV K A' S md st G x ch dead := h.frame hE.size fun b hb _ => hE.get b hb
theorem SpV.extx (h : SpV K A S md st G x ch dead) {L : List Nat} (hE : ExtX L A A') (hL : ∀ b ∈ L, K.B.size ≤ b ∧ b ∉ ftpS K md st G) : SpV K A' S md st G x ch dead :=
 h.frame hE.size fun b hb hm => hE.get b hb fun hx => by
  have := hL b hx
  rcases hm with h | h
  ·omega
  ·exact this.2 h
theorem SpV.ask (h : SpV K A S md st G x ch dead) (hI : InvS K.sp S) {n : ByteArray} (hn : idxL n S.asked = none) {cs : List Value} (hz : A.size ≤ A1.size) (h1 : Acc K.B.size A1 md' (rowsOf S ++ [(n, (0, ⟨#[]⟩, .mk), [], false)]) G) (h2 : Grow K.B.size md.b A A1)
 (h3 : md'.nl = md.nl ∧ md'.b = md.b ∨ A.size ≤ md'.b ∧ md'.nl = false) (hc : cs = scV K md' st x ch dead) :
 SpV K (A1.put K.p (.cells cs 8)) (askS S n) md' st G x ch dead ∧ ExtX (ftpS K md st G) A (A1.put K.p (.cells cs 8)) ∧ ∀ b ∈ ftpS K md' st G, b ∈ ftpS K md st G ∨ A.size ≤ b := by
 subst hc
 obtain ⟨a1, a2, a3, a4, a5⟩ := h.apart
 have hbs := h.base.size
 have hp1 := h.p1
 have hp0 := h.p0
 have hpos := h.pos
 have hsame : ∀ b, b < A.size → b ≠ K.p → (md.nl = false → b ≠ md.b) → (K.B.size ≤ b ∨ True) → (A1.put K.p (.cells (scV K md' st x ch dead) 8)).get b = A.get b := fun b hb hbp hbm _ => by
  rw [AH.gPo hbp]
  refine h2.get b hb ?_
  cases hmn : md.nl
  ·exact .inr (hbm hmn)
  ·by_cases e : b = md.b
   ·exact .inl (by rw [e, a5 hmn]; omega)
   ·exact .inr e
 obtain ⟨r1, r2, r3, c, r4⟩ := h1.row (by simp)
 have hmp : md'.b ≠ K.p := by
  rcases h3 with ⟨k1, k2⟩ | ⟨k1, k2⟩
  ·rw [k2]; exact a1 (k1 ▸ r1)
  ·omega
 refine ⟨⟨⟨by simp only [AH.zP]; omega, fun b hb => (hsame b (by omega) (by omega) (fun hn => by have := (h.mrow hn).1; omega) (.inr trivial)).trans (h.base.get b hb)⟩, hpos, hp0, by simp only [AH.zP]; omega, h.src, h.tgt, AH.gPs _ _ _, ?_, fun _ => ⟨r2, by simp only [AH.zP]; omega, c, (AH.gPo hmp).trans r4⟩, ?_, fun b hb => ?_⟩, ⟨by simp only [AH.zP]; omega, fun b hb hm => ?_⟩, fun b hb => ?_⟩
 ·rw [rowsOf_ask hI hn]
  refine h1.frame (Nat.le_refl _) fun b hb hm => AH.gPo ?_
  rcases hm with ⟨_, _, rfl⟩ | hm
  ·exact hmp
  ·exact (a4 b hm).1
 ·rw [askS_stack]
  exact h.sst.frame (by simp only [AH.zP]; omega) fun hn => hsame _ (h.sst.bd hn).2 (a2 hn) (fun hm => Ne.symm (a3 hm hn)) (.inr trivial)
 ·obtain ⟨k1, c, k2⟩ := h.g3 b hb
  exact ⟨k1, c, (hsame b (h.smd.bound b hb) (a4 b hb).1 (a4 b hb).2.1 (.inr trivial)).trans k2⟩
 ·exact hsame b hb (fun e => hm (mem_ftpS.2 (.inl e))) (fun hn e => hm (mem_ftpS.2 (.inr (.inl ⟨hn, e⟩)))) (.inr trivial)
 ·rcases mem_ftpS.1 hb with e | ⟨_, rfl⟩ | e | e
  ·exact .inl (mem_ftpS.2 (.inl e))
  ·rcases h3 with ⟨k1, k2⟩ | ⟨k1, k2⟩
   ·exact .inl (mem_ftpS.2 (.inr (.inl ⟨k1 ▸ r1, k2⟩)))
   ·exact .inr k1
  ·exact .inl (mem_ftpS.2 (.inr (.inr (.inl e))))
  ·exact .inl (mem_ftpS.2 (.inr (.inr (.inr e))))
theorem SpV.stack (h : SpV K A S md st G x ch dead) {l : List ByteArray} (hz : A.size ≤ A1.size) (hg : ∀ b, b < A.size → (st.nl = true ∨ b ≠ st.b) → A1.get b = A.get b) (hs : Stk K.B.size A1 st' l) (hb : st'.nl = false → (st'.b = st.b ∧ st.nl = false) ∨ A.size ≤ st'.b) {cs : List Value} (hc : cs = scV K md st' x ch dead) :
 SpV K (A1.put K.p (.cells cs 8)) ⟨S.asked, S.made, l, S.ext⟩ md st' G x ch dead ∧ ExtX (ftpS K md st G) A (A1.put K.p (.cells cs 8)) ∧ ∀ b ∈ ftpS K md st' G, b ∈ ftpS K md st G ∨ A.size ≤ b := by
 subst hc
 obtain ⟨a1, a2, a3, a4, a5⟩ := h.apart
 have hbs := h.base.size
 have hp1 := h.p1
 have hp0 := h.p0
 have hsame : ∀ b, b < A.size → b ≠ K.p → (st.nl = false → b ≠ st.b) → (A1.put K.p (.cells (scV K md st' x ch dead) 8)).get b = A.get b := fun b hb hbp hbm => by
  rw [AH.gPo hbp]
  refine hg b hb ?_
  cases hmn : st.nl
  ·exact .inr (hbm hmn)
  ·exact .inl rfl
 have hsp : st'.nl = false → st'.b ≠ K.p := fun hn => by
  rcases hb hn with ⟨k1, k2⟩ | k
  ·rw [k1]; exact a2 k2
  ·omega
 refine ⟨⟨⟨by simp only [AH.zP]; omega, fun b hb => (hsame b (by omega) (by omega) (fun hn => by have := (h.sst.bd hn).1; omega)).trans (h.base.get b hb)⟩, h.pos, hp0, by simp only [AH.zP]; omega, h.src, h.tgt, AH.gPs _ _ _, ?_, fun hn => ?_, hs.frame (Nat.le_refl _) fun hn => AH.gPo (hsp hn), fun b hb => ?_⟩, ⟨by simp only [AH.zP]; omega, fun b hb hm => ?_⟩, fun b hb' => ?_⟩
 ·rw [rowsOf_stack]
  refine h.smd.frame (by simp only [AH.zP]; omega) fun b hb hm => ?_
  rcases hm with ⟨k, _, rfl⟩ | hm
  ·exact hsame _ hb (a1 k) (a3 k)
  ·exact hsame _ hb (a4 b hm).1 (a4 b hm).2.2
 ·obtain ⟨k1, k2, c, k3⟩ := h.mrow hn
  exact ⟨k1, by simp only [AH.zP]; omega, c, (hsame _ k2 (a1 hn) (a3 hn)).trans k3⟩
 ·obtain ⟨k1, c, k2⟩ := h.g3 b hb
  exact ⟨k1, c, (hsame b (h.smd.bound b hb) (a4 b hb).1 (a4 b hb).2.2).trans k2⟩
 ·exact hsame b hb (fun e => hm (mem_ftpS.2 (.inl e))) (fun hn e => hm (mem_ftpS.2 (.inr (.inr (.inl ⟨hn, e⟩)))))
 ·rcases mem_ftpS.1 hb' with e | e | ⟨hn, rfl⟩ | e
  ·exact .inl (mem_ftpS.2 (.inl e))
  ·exact .inl (mem_ftpS.2 (.inr (.inl e)))
  ·rcases hb hn with ⟨k1, k2⟩ | k
   ·exact .inl (mem_ftpS.2 (.inr (.inr (.inl ⟨k2, k1⟩))))
   ·exact .inr k
  ·exact .inl (mem_ftpS.2 (.inr (.inr (.inr e))))
theorem SpV.over (h : SpV K A S md st G x ch dead) (hz : A.size ≤ A1.size) (hg : ∀ b, b < A.size → b ≠ K.p → A1.get b = A.get b) (hp : A1.get K.p = .cells (scV K md st x' ch' dead') 8) :
 SpV K A1 S md st G x' ch' dead' ∧ ExtX (ftpS K md st G) A A1 := by
 obtain ⟨a1, a2, a3, a4, a5⟩ := h.apart
 have hbs := h.base.size
 have hp1 := h.p1
 have hp0 := h.p0
 refine ⟨⟨⟨by omega, fun b hb => (hg b (by omega) (by omega)).trans (h.base.get b hb)⟩, h.pos, hp0, by omega, h.src, h.tgt, hp, ?_, fun hn => ?_, h.sst.frame hz fun hn => hg _ (h.sst.bd hn).2 (a2 hn), fun b hb => ?_⟩, ⟨hz, fun b hb hm => hg b hb fun e => hm (mem_ftpS.2 (.inl e))⟩⟩
 ·refine h.smd.frame hz fun b hb hm => ?_
  rcases hm with ⟨k, _, rfl⟩ | hm
  ·exact hg _ hb (a1 k)
  ·exact hg _ hb (a4 b hm).1
 ·obtain ⟨k1, k2, c, k3⟩ := h.mrow hn
  exact ⟨k1, by omega, c, (hg _ k2 (a1 hn)).trans k3⟩
 ·obtain ⟨k1, c, k2⟩ := h.g3 b hb
  exact ⟨k1, c, (hg b (h.smd.bound b hb) (a4 b hb).1).trans k2⟩
theorem SpV.row (h : SpV K A S md st G x ch dead) {k : Nat} (hk : k < (rowsOf S).length) :
 ∃ c1 c2 s2 y, md.nl = false ∧ md.o = 0 ∧ md.b ≠ K.p ∧ K.B.size ≤ md.b ∧ md.b < A.size ∧ k < md.len ∧ y = (rowsOf S)[k] ∧ A.get md.b = .cells (c1 ++ ([.string y.1, .int .i64 y.2.1.1, .string y.2.1.2.1, Sl.nil.v, Sl.v s2, .bool y.2.2.2] ++ c2)) 6 ∧ c1.length = k * 6 ∧ y.1.size < BIG ∧
   (∃ F2, SlR A s2 y.2.2.1 F2 ∧ (∀ b ∈ F2, b ∈ G)) ∧
   ∀ (A' : AH) (S' : CSh) (r : TRes) (seen : List TSeen) (ss : Sl) (Fs : List Nat), r.2.size < BIG → A'.get md.b = .cells (c1 ++ ([.string y.1, .int .i64 r.1, .string r.2, Sl.nil.v, ss.v, .bool true] ++ c2)) 6 → A.size ≤ A'.size → (∀ b, b < A.size → b ≠ md.b → A'.get b = A.get b) →
     SlR A' ss seen Fs → (∀ b ∈ Fs, K.B.size ≤ b ∧ b ≠ md.b ∧ ∃ c, A'.get b = .cells c 3) → rowsOf S' = (rowsOf S).set k (y.1, (r.1, r.2, .mk), seen, true) → S'.stack = S.stack →
     ∃ G', SpV K A' S' md st G' x ch dead ∧ ExtX (ftpS K md st G) A A' ∧ ∀ b ∈ G', b ∈ G ∨ b ∈ Fs := by
 obtain ⟨a1, a2, a3, a4, a5⟩ := h.apart
 obtain ⟨c, G1, Fi, G2, c1, ci, c2, n1, n2, n3, n4, n5, n6, rfl, rfl, n8, n9, n10⟩ := h.smd.focus hk
 obtain ⟨s2, rfl, z1, z2, q2⟩ := rep_MRow.1 n9
 refine ⟨c1, c2, s2, _, n1, n2, a1 n1, n3, n4, n5, rfl, n6, n8, z1, ⟨Fi, q2, fun b hb => by simp [hb]⟩, fun A' S' r seen ss Fs u3 u4 u5 u6 u7 u8 u9 u10 => ?_⟩
 have hbs := h.base.size
 have hp1 := h.p1
 have hp0 := h.p0
 have hgne : ∀ b ∈ G1 ++ G2, b ∈ G1 ++ (Fi ++ G2) := fun b hb => by
  rcases List.mem_append.1 hb with hb | hb <;> simp [hb]
 have hacc := n10 A' (((rowsOf S)[k]).1, (r.1, r.2, .mk), seen, true) _ Fs u4 u5 (fun hm => (u8 _ hm).2.1 rfl) (fun b hb => u6 b (h.smd.bound b (hgne b hb)) ((a4 b (hgne b hb)).2.1 n1)) (rep_MRow.2 ⟨ss, rfl, z1, u3, u7⟩)
 have hmem : ∀ b ∈ G1 ++ (Fs ++ G2), b ∈ G1 ++ G2 ∨ b ∈ Fs := fun b hb => by
  rcases List.mem_append.1 hb with hb | hb
  ·exact .inl (by simp [hb])
  ·rcases List.mem_append.1 hb with hb | hb
   ·exact .inr hb
   ·exact .inl (by simp [hb])
 refine ⟨_, ⟨⟨by omega, fun b hb => (u6 b (by omega) (by omega)).trans (h.base.get b hb)⟩, h.pos, hp0, by omega, h.src, h.tgt, (u6 _ hp1 (Ne.symm (a1 n1))).trans h.gp, by rw [u9]; exact hacc, fun hn => ⟨n3, by omega, _, u4⟩, by rw [u10]; exact h.sst.frame u5 fun hn => u6 _ (h.sst.bd hn).2 (Ne.symm (a3 n1 hn)), fun b hb => ?_⟩, ⟨u5, fun b hb hm => u6 b hb fun e => hm (mem_ftpS.2 (.inr (.inl ⟨n1, e⟩)))⟩, fun b hb => ?_⟩
 ·rcases hmem b hb with hb | hb
  ·obtain ⟨k1, c, k2⟩ := h.g3 b (hgne b hb)
   exact ⟨k1, c, (u6 b (h.smd.bound b (hgne b hb)) ((a4 b (hgne b hb)).2.1 n1)).trans k2⟩
  ·exact ⟨(u8 b hb).1, (u8 b hb).2.2⟩
 ·rcases hmem b hb with hb | hb
  ·exact .inl (hgne b hb)
  ·exact .inr hb
def x0R : TResult := (0, ⟨#[]⟩, [])
def SpStep (K : Skc) (A : AH) (F : List Nat) (S' : CSh) (x : TResult) (ch : Sl) (dead : Bool) (A' : AH) : Prop :=
 ∃ md st G, SpV K A' S' md st G x ch dead ∧ ExtX F A A' ∧ ∀ b ∈ ftpS K md st G, b ∈ F ∨ A.size ≤ b
def stopV (r : TResult) (ch : Sl) : Value := .agg #[.int .i64 r.1, .string r.2.1, ch.v]
def SmPost (K : Skc) (A : AH) (F : List Nat) (g : CSh × Except Stop TRes) (R : ARes) (A' : AH) : Prop :=
 match g.2 with
 | .ok v => R = .ret (madeV v) ∧ SpStep K A F g.1 x0R .nil false A'
 | .error e => ∃ r ch Fc, e = .ended r ∧ R = .ret (stopV r ch) ∧ SlR A' ch r.2.2 Fc ∧ (∀ b ∈ Fc, A.size ≤ b) ∧ SpStep K A F g.1 r ch true A'
def SrPost (K : Skc) (A : AH) (F : List Nat) (g : CSh × Except Stop (TRes × List TSeen)) (R : ARes) (A' : AH) : Prop :=
 match g.2 with
 | .ok x => ∃ sl Fl md st G, R = .ret (.tuple #[madeV x.1, sl.v]) ∧ SlR A' sl x.2 Fl ∧ SpV K A' g.1 md st G x0R .nil false ∧ ExtX F A A' ∧ (∀ b ∈ ftpS K md st G, b ∈ F ∨ A.size ≤ b) ∧ ∀ b ∈ Fl, A.size ≤ b ∧ b ∉ ftpS K md st G ∧ ∃ c, A'.get b = .cells c 3
 | .error e => ∃ r ch Fc u, e = .ended r ∧ R = .ret (.tuple #[stopV r ch, u]) ∧ SlR A' ch r.2.2 Fc ∧ (∀ b ∈ Fc, A.size ≤ b) ∧ SpStep K A F g.1 r ch true A'
def SMakeC (P : Program) (ro : Nat) (X : FuncId → List Value → AH → ARes → AH → Prop) (f : FuncId) (K : Skc) (d : Nat) (und : Under (List (ByteArray × List TSeen))) : Prop :=
 ∀ (A : AH) (S : CSh) (md st : Sl) (G : List Nat) (n : ByteArray), ro ≤ A.size → SpV K A S md st G x0R .nil false → InvS K.sp S → ShopOk K.sp S → NameOk n → Room 202 K.sp 1 S → S.stack.length + d = 60 →
   ACalls P ro X f [.pointer (some ⟨K.p, 0, none⟩), .string n] A (SmPost K A (ftpS K md st G) (und S n))
def SRunC (P : Program) (ro : Nat) (X : FuncId → List Value → AH → ARes → AH → Prop) (f : FuncId) (K : Skc) (d : Nat) (und : Under (List (ByteArray × List TSeen))) : Prop :=
 ∀ (A : AH) (S : CSh) (md st : Sl) (G : List Nat) (p : TProgram) (cs : Sl) (F : List Nat), ro ≤ A.size → SpV K A S md st G x0R .nil false → InvS K.sp S → ShopOk K.sp S → ProgOk p → SlR K.B cs p F → Room 202 K.sp 202 S → S.stack.length + d = 60 →
   ACalls P ro X f [.pointer (some ⟨K.p, 0, none⟩), .agg #[cs.v]] A (SrPost K A (ftpS K md st G) (goR und K.sp p (startR p) [] S))
theorem told_miss {sp : TSpace} {p : TProgram} {n : ByteArray} {m : Mach} {r : TRes} (h : hasR sp n = false → r.1 = 4) :
 toldR p true n m (if r.1 = 4 ∧ hasR sp n = false then (false, 0, ⟨#[]⟩) else (true, r.1, r.2)) = toldR p true n m (hasR sp n, r.1, r.2) := by
 cases hh : hasR sp n with
 | true => simp
 | false =>
   rw [if_pos ⟨h hh, rfl⟩]
   rfl
end
section
end
end Go.AM
namespace Go.AM
open Go
set_option linter.all false
structure BSt where
 s : TStore
 ran : List ByteArray
 held : List ByteArray
 used : List Nat
section
variable {sp : TSpace} {K : Nat} {und : Under BSt}
end
structure Grew (x y : TStore) : Prop where
 ok : StoreOk y
 w : y.1 = x.1
 recs : x.2.2 <+: y.2.2
 texts : ∀ t ∈ x.2.1, t ∈ y.2.1
theorem Grew.refl {x : TStore} (h : StoreOk x) : Grew x x := ⟨h, rfl, List.prefix_refl _, fun _ h => h⟩
theorem Grew.trans {x y z : TStore} (h : Grew x y) (k : Grew y z) : Grew x z := ⟨k.ok, k.w.trans h.w, h.recs.trans k.recs, fun t ht => k.texts t (h.texts t ht)⟩
section
variable {sp : TSpace} {K : Nat} {und : Under BSt}
end
end Go.AM
namespace Go.AM
open Go
def formT (r : TRes) : ByteArray := formR r.1 r.2 []
def madeT (S : CSh) (l : List ByteArray) : List ByteArray := l.filterMap fun y => (lookL y S.made).map formT
def litT : List ByteArray := [⟨#[49]⟩, ⟨#[48]⟩]
def doubtT (x : TStore) (sp : TSpace) (n : ByteArray) : List ByteArray := x.2.1 ++ litT ++ madeT (cleanS sp n).1 (cleanS sp n).1.asked
def doubtR (x : TStore) (sp : TSpace) (n : ByteArray) : Option (ByteArray × ByteArray) :=
 if ¬ StoreOk x ∨ ¬ spaceCode sp = 0 ∨ ¬ NameOk n then none else clashL (doubtT x sp n) x.1
theorem roomS {sp : TSpace} (hf : SpaceFine sp) : Room 202 sp 1 (shop0) := by
 unfold Room
 have h1 : sp.2.length - (AM.begun sp (shop0)).length ≤ 200 := by have := hf.l2; omega
 have h2 := Nat.mul_le_mul_left 202 h1
 show 0 + 1 + _ < _
 omega
theorem formT_ne {r : TRes} (h : ResOk r) : formT r ≠ ⟨#[]⟩ := by
 unfold formT
 obtain ⟨h1, h2, h3⟩ := h
 rw [formR_ok (by unfold formBad; simp; omega)]
 intro e
 have := congrArg ByteArray.size e
 rw [ByteArray.size_append] at this
 have e2 : (ByteArray.mk #[UInt8.ofNat (48 + r.1.toNat), 58]).size = 2 := rfl
 have e3 : (ByteArray.mk #[]).size = 0 := rfl
 omega
theorem formT_size {r : TRes} (h : ResOk r) : (formT r).size ≤ 2002 := by
 unfold formT
 obtain ⟨h1, h2, h3⟩ := h
 rw [formR_ok (by unfold formBad; simp; omega), ByteArray.size_append]
 have e2 : (ByteArray.mk #[UInt8.ofNat (48 + r.1.toNat), 58]).size = 2 := rfl
 omega
theorem rising_no {w : Int} {l : List ByteArray} (h : Rising w l) : NoClash w l := by
 intro x hx y hy e
 obtain ⟨i, hi, rfl⟩ := List.getElem_of_mem hx
 obtain ⟨j, hj, rfl⟩ := List.getElem_of_mem hy
 rcases Nat.lt_trichotomy i j with c | c | c
 ·have := h.lt c hj
  rw [e] at this
  exact absurd this (slt_irrefl _)
 ·subst c; rfl
 ·have := h.lt c hi
  rw [e] at this
  exact absurd this (slt_irrefl _)
theorem NoClash.mono {w : Int} {l k : List ByteArray} (h : NoClash w l) (hs : ∀ x ∈ k, x ∈ l) : NoClash w k := fun x hx y hy => h x (hs x hx) y (hs y hy)
theorem clashGo_pass {w : Int} : ∀ {p pre r : List ByteArray}, NoClash w (pre ++ p) → clashGo w pre (p ++ r) = clashGo w (pre ++ p) r
 | [], pre, r, _ => by simp
 | t :: p, pre, r, h => by
   have ho : AM.other w pre t = none := by
    rw [AM.other, List.find?_eq_none]
    intro x hx
    simp only [decide_eq_true_eq, not_and, ne_eq, Classical.not_not]
    exact fun e => h x (by simp [hx]) t (by simp) e
   rw [List.cons_append, clashGo, ho]
   simp only
   rw [clashGo_pass (p := p) (pre := pre ++ [t]) (by simpa using h)]
   simp
theorem doubt_pass {x : TStore} (h : StoreOk x) (r : List ByteArray) : clashL (x.2.1 ++ r) x.1 = clashGo x.1 x.2.1 r := by
 unfold clashL
 rw [clashGo_pass (by simpa using rising_no h.2.2.2.1)]
 simp
theorem madeT_len (S : CSh) (l : List ByteArray) : (madeT S l).length ≤ l.length := List.length_filterMap_le _ _
theorem madeT_snoc (S : CSh) (l : List ByteArray) (y : ByteArray) : madeT S (l ++ [y]) = madeT S l ++ match lookL y S.made with
 | some r => [formT r]
 | none => [] := by
 unfold madeT
 rw [List.filterMap_append]
 cases hl : lookL y S.made <;> simp [hl]
end Go.AM
