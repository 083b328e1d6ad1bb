import Derived.Test.YtmelgjblkmbhjaaGreatDoorAmRun
import Derived.Test.YtmelgjblkmbhjaaGreatDoorAmSD
import Derived.Recover
namespace Go.AM
open Go
set_option linter.all false
abbrev TRes := Int × ByteArray
inductive Stop where
 | ended (r : TResult)
 | refused (c : Int) (a b : ByteArray)
structure Shop (σ : Type) where
 asked : List ByteArray
 made : List (ByteArray × TRes)
 stack : List ByteArray
 ext : σ
def lookL {α : Type} (n : ByteArray) : List (ByteArray × α) → Option α
 | [] => none
 | x :: l => if x.1 = n then some x.2 else lookL n l
def srcR (sp : TSpace) (n : ByteArray) : Option ByteArray := lookL n sp.1
def tgtR (sp : TSpace) (n : ByteArray) : Option TProgram := lookL n sp.2
def hasR (sp : TSpace) (n : ByteArray) : Bool := (srcR sp n).isSome || (tgtR sp n).isSome
def idxL (n : ByteArray) : List ByteArray → Option Nat
 | [] => none
 | x :: l => if x = n then some 0 else (idxL n l).map (· + 1)
section
variable {σ : Type}
def askS (S : Shop σ) (n : ByteArray) : Shop σ := if (idxL n S.asked).isSome then S else ⟨S.asked ++ [n], S.made, S.stack, S.ext⟩
def madeS (S : Shop σ) (n : ByteArray) (r : TRes) : Shop σ := ⟨S.asked, S.made ++ [(n, r)], S.stack, S.ext⟩
def pushS (S : Shop σ) (n : ByteArray) : Shop σ := ⟨S.asked, S.made, S.stack ++ [n], S.ext⟩
def popS (S : Shop σ) : Shop σ := ⟨S.asked, S.made, S.stack.take (S.stack.length - 1), S.ext⟩
abbrev Under (σ : Type) := Shop σ → ByteArray → Shop σ × Except Stop TRes
def fuelT : Tick → Nat
 | .look _ _ m => 202 - m.looks
 | _ => 1
def goG (und : Under σ) (sp : TSpace) (p : TProgram) : Nat → Tick → List TSeen → Shop σ → Shop σ × Except Stop (TRes × List TSeen)
 | 0, _, seen, S => (S, .ok ((0, ⟨#[]⟩), seen))
 | _ + 1, .fin c t _, seen, S => (S, .ok ((c, t), seen))
 | _ + 1, .go _, seen, S => (S, .ok ((0, ⟨#[]⟩), seen))
 | k + 1, .look a n m, seen, S =>
   if a = false then goG und sp p k (toldR p false n m (hasR sp n, 0, ⟨#[]⟩)) (seen ++ [(n, false, flagS (hasR sp n))]) S
   else match und S n with
    | (S', .error e) => (S', .error e)
    | (S', .ok r) => goG und sp p k (toldR p true n m (hasR sp n, r.1, r.2)) (seen ++ [(n, true, formR r.1 r.2 [])]) S'
def goR (und : Under σ) (sp : TSpace) (p : TProgram) (t : Tick) (seen : List TSeen) (S : Shop σ) : Shop σ × Except Stop (TRes × List TSeen) := goG und sp p (fuelT t) t seen S
abbrev Maker (σ : Type) := Under σ → Shop σ → ByteArray → TProgram → Shop σ × Except Stop TRes
def underG (mk : Maker σ) (sp : TSpace) : Nat → Under σ
 | d, S0, n =>
   let S := askS S0 n
   match lookL n S.made with
   | some r => (S, .ok r)
   | none => match srcR sp n with
     | some t => (madeS S n (0, t), .ok (0, t))
     | none => match tgtR sp n with
       | none => (madeS S n (4, n), .ok (4, n))
       | some p => match idxL n S.stack with
         | some i => (S, .error (.ended (6, ⟨#[]⟩, S.stack.drop i)))
         | none => match d with
           | 0 => (S, .error (.ended (7, n, [])))
           | d + 1 => match mk (underG mk sp d) (pushS S n) n p with
             | (S2, .error e) => (S2, .error e)
             | (S2, .ok r) => (madeS (popS S2) n r, .ok r)
end
theorem runN_looks {p : TProgram} : ∀ (k : Nat) (m : Mach) {a : Bool} {n : ByteArray} {m' : Mach}, runN p k m = .look a n m' → m'.looks = m.looks + 1
 | 0, m, _, _, _, h => by cases h
 | k + 1, m, a, n, m', h => by
   unfold runN at h
   cases ht : tickR p m with
   | go m1 =>
     rw [ht] at h
     have := runN_looks k m1 h
     rw [this, (tickR_go ht).2.2]
   | fin c t s => rw [ht] at h; cases h
   | look a1 n1 m1 => rw [ht] at h; cases h; exact (tickR_look ht).2.2
theorem runR_looks {p : TProgram} {m m' : Mach} {a : Bool} {n : ByteArray} (h : runR p m = .look a n m') : m'.looks = m.looks + 1 := runN_looks _ m h
theorem toldR_looks {p : TProgram} {a a' : Bool} {n n' : ByteArray} {m m' : Mach} {r : TReply} (h : toldR p a n m r = .look a' n' m') : m'.looks = m.looks + 1 := by
 unfold toldR at h
 split at h
 ·have := runR_looks h; exact this
 ·split at h
  ·cases h
  ·split at h
   ·cases h
   ·have := runR_looks h; exact this
theorem startR_looks {p : TProgram} {m : Mach} {a : Bool} {n : ByteArray} (h : startR p = .look a n m) : m.looks = 1 := runR_looks h
section
variable {σ : Type} {und : Under σ} {sp : TSpace} {p : TProgram}
theorem fuel_told {a : Bool} {n : ByteArray} {m : Mach} {r : TReply} (hm : m.looks ≤ 200) (h : TickOk (toldR p a n m r)) (seen : List TSeen) (S : Shop σ) : goG und sp p (201 - m.looks) (toldR p a n m r) seen S = goR und sp p (toldR p a n m r) seen S := by
 unfold goR
 cases ht : toldR p a n m r with
 | fin c t s => obtain ⟨k, hk⟩ : ∃ k, 201 - m.looks = k + 1 := ⟨200 - m.looks, by omega⟩
                rw [hk]; rfl
 | go m' => rw [ht] at h; exact h.elim
 | look a' n' m' =>
   have := toldR_looks ht
   show goG und sp p (201 - m.looks) _ _ _ = goG und sp p (202 - m'.looks) _ _ _
   rw [this, show 201 - m.looks = 202 - (m.looks + 1) by omega]
theorem goR_fin {c : Int} {t : ByteArray} {s : Nat} {seen : List TSeen} {S : Shop σ} : goR und sp p (.fin c t s) seen S = (S, .ok ((c, t), seen)) := rfl
theorem goR_has {n : ByteArray} {m : Mach} {seen : List TSeen} {S : Shop σ} (hp : ProgOk p) (h : TickOk (.look false n m)) :
 goR und sp p (.look false n m) seen S = goR und sp p (toldR p false n m (hasR sp n, 0, ⟨#[]⟩)) (seen ++ [(n, false, flagS (hasR sp n))]) S := by
 have hm := h.2.1.looks
 rw [← fuel_told hm (toldR_ok hp h (by show 0 ≤ _; omega))]
 unfold goR
 rw [show fuelT (.look _ n m) = (201 - m.looks) + 1 from by show 202 - m.looks = _; omega]
 rfl
theorem goR_err {n : ByteArray} {m : Mach} {seen : List TSeen} {S S' : Shop σ} {e : Stop} (h : TickOk (.look true n m)) (hu : und S n = (S', .error e)) :
 goR und sp p (.look true n m) seen S = (S', .error e) := by
 have hm := h.2.1.looks
 unfold goR
 rw [show fuelT (.look _ n m) = (201 - m.looks) + 1 from by show 202 - m.looks = _; omega]
 show (if _ then _ else _) = _
 rw [if_neg (by simp), hu]
theorem goR_ask {n : ByteArray} {m : Mach} {seen : List TSeen} {S S' : Shop σ} {r : TRes} (hp : ProgOk p) (h : TickOk (.look true n m)) (hu : und S n = (S', .ok r)) (hr : r.2.size ≤ 2000) :
 goR und sp p (.look true n m) seen S = goR und sp p (toldR p true n m (hasR sp n, r.1, r.2)) (seen ++ [(n, true, formR r.1 r.2 [])]) S' := by
 have hm := h.2.1.looks
 rw [← fuel_told hm (toldR_ok hp h hr)]
 unfold goR
 rw [show fuelT (.look _ n m) = (201 - m.looks) + 1 from by show 202 - m.looks = _; omega]
 show (if _ then _ else _) = _
 rw [if_neg (by simp), hu]
end
def cleanMk (sp : TSpace) : Maker (List (ByteArray × List TSeen)) := fun und S n p =>
 match goR und sp p (startR p) [] S with
 | (S', .error e) => (S', .error e)
 | (S', .ok (r, seen)) => (⟨S'.asked, S'.made, S'.stack, S'.ext ++ [(n, seen)]⟩, .ok r)
def shop0 : Shop (List (ByteArray × List TSeen)) := ⟨[], [], [], []⟩
def cleanS (sp : TSpace) (n : ByteArray) : Shop (List (ByteArray × List TSeen)) × Except Stop TRes := underG (cleanMk sp) sp 60 shop0 n
def resOf : Except Stop TRes → TResult
 | .ok r => (r.1, r.2, [])
 | .error (.ended r) => r
 | .error (.refused c a b) => (c, a, [])
def ResOk (r : TRes) : Prop := 0 ≤ r.1 ∧ r.1 ≤ 5 ∧ r.2.size ≤ 2000
structure SpOk (sp : TSpace) : Prop where
 src : ∀ x ∈ sp.1, x.2.size ≤ 2000
 tgt : ∀ x ∈ sp.2, ProgOk x.2
 apart : ∀ n t, srcR sp n = some t → tgtR sp n = none
theorem lookL_mem {α : Type} {n : ByteArray} : ∀ {l : List (ByteArray × α)} {r : α}, lookL n l = some r → (n, r) ∈ l
 | [], _, h => by cases h
 | x :: l, r, h => by
   unfold lookL at h
   split at h
   ·rename_i hx; cases h; subst hx; simp
   ·exact List.mem_cons_of_mem _ (lookL_mem h)
theorem lookL_none {α : Type} {n : ByteArray} : ∀ {l : List (ByteArray × α)}, lookL n l = none → n ∉ l.map (·.1)
 | [], _, h => by cases h
 | x :: l, hn, h => by
   unfold lookL at hn
   split at hn
   ·cases hn
   ·rename_i hx
    rw [List.map_cons, List.mem_cons] at h
    rcases h with h | h
    ·exact hx h.symm
    ·exact lookL_none hn h
theorem idxL_none {n : ByteArray} : ∀ {l : List ByteArray}, idxL n l = none → n ∉ l
 | [], _, h => by cases h
 | x :: l, hn, h => by
   unfold idxL at hn
   split at hn
   ·cases hn
   ·rename_i hx
    rcases List.mem_cons.1 h with h | h
    ·exact hx h.symm
    ·refine idxL_none ?_ h
     cases hi : idxL n l with
     | none => rfl
     | some i => rw [hi] at hn; cases hn
theorem SpOk.text {sp : TSpace} (h : SpOk sp) {n t : ByteArray} (ht : srcR sp n = some t) : t.size ≤ 2000 := h.src _ (lookL_mem ht)
theorem SpOk.prog {sp : TSpace} (h : SpOk sp) {n : ByteArray} {p : TProgram} (ht : tgtR sp n = some p) : ProgOk p := h.tgt _ (lookL_mem ht)
section
variable {σ : Type}
def isT (sp : TSpace) (n : ByteArray) : Bool := (tgtR sp n).isSome
def begun (sp : TSpace) (S : Shop σ) : List ByteArray := (S.made.map (·.1)).filter (isT sp) ++ S.stack
structure ShopOk (sp : TSpace) (S : Shop σ) : Prop where
 nodup : (begun sp S).Nodup
 tg : ∀ x ∈ S.stack, isT sp x = true
 res : ∀ x ∈ S.made, ResOk x.2
theorem ShopOk.few {sp : TSpace} {S : Shop σ} (h : ShopOk sp S) : (begun sp S).length ≤ sp.2.length := by
 have hs : ∀ x ∈ begun sp S, x ∈ sp.2.map (·.1) := fun x hx => by
  have ht : isT sp x = true := by
   unfold begun at hx
   rcases List.mem_append.1 hx with hx | hx
   ·exact (List.mem_filter.1 hx).2
   ·exact h.tg x hx
  unfold isT tgtR at ht
  cases hl : lookL x sp.2 with
  | none => rw [hl] at ht; cases ht
  | some p => exact List.mem_map.2 ⟨_, lookL_mem hl, rfl⟩
 have := List.Nodup.length_le_of_subset h.nodup hs
 simpa using this
structure Went (sp : TSpace) (k K : Nat) (S S' : Shop σ) : Prop where
 ok : ShopOk sp S'
 le : (begun sp S).length ≤ (begun sp S').length
 asked : S'.asked.length ≤ S.asked.length + k + K * ((begun sp S').length - (begun sp S).length)
 mono : S.asked.length ≤ S'.asked.length
structure UndOk (sp : TSpace) (K : Nat) (und : Under σ) : Prop where
 went : ∀ S n, ShopOk sp S → NameOk n → Went sp 1 K S (und S n).1
 stack : ∀ S n r, ShopOk sp S → NameOk n → (und S n).2 = .ok r → (und S n).1.stack = S.stack ∧ ResOk r
structure MkOk (sp : TSpace) (K : Nat) (mk : Maker σ) : Prop where
 went : ∀ und, UndOk sp K und → ∀ S n p, ShopOk sp S → ProgOk p → Went sp K K S (mk und S n p).1
 stack : ∀ und, UndOk sp K und → ∀ S n p r, ShopOk sp S → ProgOk p → (mk und S n p).2 = .ok r → (mk und S n p).1.stack = S.stack ∧ ResOk r
theorem askS_begun (sp : TSpace) (S : Shop σ) (n : ByteArray) : begun sp (askS S n) = begun sp S := by unfold askS; split <;> rfl
theorem askS_made (S : Shop σ) (n : ByteArray) : (askS S n).made = S.made := by unfold askS; split <;> rfl
theorem askS_stack (S : Shop σ) (n : ByteArray) : (askS S n).stack = S.stack := by unfold askS; split <;> rfl
theorem askS_len (S : Shop σ) (n : ByteArray) : S.asked.length ≤ (askS S n).asked.length ∧ (askS S n).asked.length ≤ S.asked.length + 1 := by
 unfold askS; split
 ·omega
 ·simp
theorem askS_ok {sp : TSpace} {S : Shop σ} (h : ShopOk sp S) (n : ByteArray) : ShopOk sp (askS S n) :=
 ⟨by rw [askS_begun]; exact h.nodup, by rw [askS_stack]; exact h.tg, by rw [askS_made]; exact h.res⟩
theorem Went.refl {sp : TSpace} {S : Shop σ} (h : ShopOk sp S) (k K : Nat) : Went sp k K S S := ⟨h, Nat.le_refl _, by omega, Nat.le_refl _⟩
theorem Went.weak {sp : TSpace} {k k' K : Nat} {S S' : Shop σ} (h : Went sp k K S S') (hk : k ≤ k') : Went sp k' K S S' := ⟨h.ok, h.le, by have := h.asked; omega, h.mono⟩
theorem Went.trans {sp : TSpace} {k l K : Nat} {S S' S'' : Shop σ} (h : Went sp k K S S') (j : Went sp l K S' S'') : Went sp (k + l) K S S'' := by
 refine ⟨j.ok, Nat.le_trans h.le j.le, ?_, Nat.le_trans h.mono j.mono⟩
 have h1 := h.asked
 have h2 := j.asked
 have h3 := h.le
 have h4 := j.le
 have : K * ((begun sp S'').length - (begun sp S).length) = K * ((begun sp S'').length - (begun sp S').length) + K * ((begun sp S').length - (begun sp S).length) := by
  rw [← Nat.mul_add]; congr 1; omega
 omega
theorem madeS_ok {sp : TSpace} {S : Shop σ} (h : ShopOk sp S) {n : ByteArray} (hn : isT sp n = false) {r : TRes} (hr : ResOk r) : ShopOk sp (madeS S n r) ∧ begun sp (madeS S n r) = begun sp S := by
 have hb : begun sp (madeS S n r) = begun sp S := by
  unfold begun madeS
  simp [hn]
 refine ⟨⟨by rw [hb]; exact h.nodup, h.tg, fun x hx => ?_⟩, hb⟩
 rcases List.mem_append.1 hx with hx | hx
 ·exact h.res x hx
 ·rw [List.mem_singleton.1 hx]; exact hr
theorem underG_ok {sp : TSpace} (hsp : SpOk sp) {K : Nat} {mk : Maker σ} (hmk : MkOk sp K mk) : ∀ d, UndOk sp K (underG mk sp d) := by
 have key : ∀ d, (∀ e, d = e + 1 → UndOk sp K (underG mk sp e)) → ∀ S0 n, ShopOk sp S0 → NameOk n → Went sp 1 K S0 (underG mk sp d S0 n).1 ∧ ∀ r, (underG mk sp d S0 n).2 = .ok r → (underG mk sp d S0 n).1.stack = S0.stack ∧ ResOk r := by
  intro d ih S0 n h0 hn
  have hA := askS_len S0 n
  have hS := askS_ok h0 n
  have hst := askS_stack S0 n
  have hbg := askS_begun sp S0 n
  have hw0 : Went sp 1 K S0 (askS S0 n) := ⟨hS, by rw [hbg]; exact Nat.le_refl _, by omega, hA.1⟩
  unfold underG
  simp only
  generalize askS S0 n = S at *
  cases hl : lookL n S.made with
  | some r => exact ⟨hw0, fun r' h => by cases h; exact ⟨hst, hS.res _ (lookL_mem hl)⟩⟩
  | none =>
    simp only
    cases hs : srcR sp n with
    | some t =>
      simp only
      have hr : ResOk (0, t) := ⟨Int.le_refl 0, by show (0 : Int) ≤ 5; decide, hsp.text hs⟩
      obtain ⟨k1, k2⟩ := madeS_ok hS (n := n) (by unfold isT; rw [hsp.apart n t hs]; rfl) hr
      exact ⟨⟨k1, by rw [k2, hbg]; exact Nat.le_refl _, by rw [k2, hbg]; show S.asked.length ≤ _; omega, hA.1⟩, fun r' h => by cases h; exact ⟨hst, hr⟩⟩
    | none =>
      simp only
      cases ht : tgtR sp n with
      | none =>
        have hr : ResOk (4, n) := ⟨by show (0 : Int) ≤ 4; decide, by show (4 : Int) ≤ 5; decide, by have := name_size hn; show n.size ≤ 2000; omega⟩
        obtain ⟨k1, k2⟩ := madeS_ok hS (n := n) (by unfold isT; rw [ht]; rfl) hr
        exact ⟨⟨k1, by rw [k2, hbg]; exact Nat.le_refl _, by rw [k2, hbg]; show S.asked.length ≤ _; omega, hA.1⟩, fun r' h => by cases h; exact ⟨hst, hr⟩⟩
      | some p =>
        simp only
        cases hi : idxL n S.stack with
        | some i => exact ⟨hw0, fun r' h => by cases h⟩
        | none =>
          simp only
          cases d with
          | zero => exact ⟨hw0, fun r' h => by cases h⟩
          | succ d =>
            simp only
            have hT : isT sp n = true := by unfold isT; rw [ht]; rfl
            have hnm : n ∉ (S.made.map (·.1)).filter (isT sp) := fun h => lookL_none hl (List.mem_filter.1 h).1
            have hns : n ∉ S.stack := idxL_none hi
            have hpb : begun sp (pushS S n) = begun sp S ++ [n] := by unfold begun pushS; simp
            have hP : ShopOk sp (pushS S n) := by
             refine ⟨?_, fun x hx => ?_, hS.res⟩
             ·rw [hpb, List.nodup_append]
              refine ⟨hS.nodup, by simp, fun a ha b hb => ?_⟩
              rw [List.mem_singleton.1 hb]
              rintro rfl
              unfold begun at ha
              rcases List.mem_append.1 ha with ha | ha
              ·exact hnm ha
              ·exact hns ha
             ·rcases List.mem_append.1 hx with hx | hx
              ·exact hS.tg x hx
              ·rw [List.mem_singleton.1 hx]; exact hT
            have hU := ih d rfl
            have w1 := hmk.went _ hU (pushS S n) n p hP (hsp.prog ht)
            have w2 := hmk.stack _ hU (pushS S n) n p
            generalize hg : mk (underG mk sp d) (pushS S n) n p = g at *
            obtain ⟨S2, res⟩ := g
            have hpl : (begun sp (pushS S n)).length = (begun sp S).length + 1 := by rw [hpb]; simp
            have e1 := w1.le
            have e2 := w1.asked
            have e3 := w1.mono
            have hw : Went sp 1 K S0 S2 := by
             refine ⟨w1.ok, by rw [← hbg]; simp only at e1; omega, ?_, by simp only at e3; have : (pushS S n).asked.length = S.asked.length := rfl; omega⟩
             rw [← hbg]
             simp only at e1 e2
             have hpa : (pushS S n).asked.length = S.asked.length := rfl
             have : K * ((begun sp S2).length - (begun sp S).length) = K * ((begun sp S2).length - (begun sp (pushS S n)).length) + K := by
              rw [← Nat.mul_succ]; congr 1; omega
             omega
            cases res with
            | error e => exact ⟨hw, fun r' h => by cases h⟩
            | ok r =>
              obtain ⟨hst2, hr⟩ := w2 r hP (hsp.prog ht) rfl
              have hst2' : S2.stack = S.stack ++ [n] := hst2
              have hpop : (popS S2).stack = S.stack := by unfold popS; simp [hst2']
              have hb2 : (begun sp (madeS (popS S2) n r)).Perm (begun sp S2) := by
               unfold begun
               rw [show (madeS (popS S2) n r).stack = S.stack from hpop, show (madeS (popS S2) n r).made = S2.made ++ [(n, r)] from rfl, hst2']
               simp only [List.map_append, List.filter_append, List.map_cons, List.map_nil, List.append_assoc]
               refine List.Perm.append_left _ ?_
               rw [show List.filter (isT sp) [n] = [n] by simp [hT]]
               exact List.perm_append_comm
              have hl2 : (begun sp (madeS (popS S2) n r)).length = (begun sp S2).length := hb2.length_eq
              refine ⟨⟨⟨(hb2.nodup_iff).2 w1.ok.nodup, fun x hx => ?_, fun x hx => ?_⟩, by rw [hl2]; exact hw.le, by rw [hl2]; exact hw.asked, hw.mono⟩, fun r' h => ?_⟩
              ·rw [show (madeS (popS S2) n r).stack = S.stack from hpop] at hx; exact hS.tg x hx
              ·rcases List.mem_append.1 hx with hx | hx
               ·exact w1.ok.res x hx
               ·rw [List.mem_singleton.1 hx]; exact hr
              ·cases h
               exact ⟨hpop.trans hst, hr⟩
 intro d
 induction d with
 | zero => exact ⟨fun S n h hn => (key 0 (fun e h => by omega) S n h hn).1, fun S n r h hn hr => (key 0 (fun e h => by omega) S n h hn).2 r hr⟩
 | succ d ih => exact ⟨fun S n h hn => (key (d + 1) (fun e he => by cases he; exact ih) S n h hn).1, fun S n r h hn hr => (key (d + 1) (fun e he => by cases he; exact ih) S n h hn).2 r hr⟩
theorem goG_ok {sp : TSpace} {K : Nat} {und : Under σ} (hu : UndOk sp K und) {p : TProgram} (hp : ProgOk p) : ∀ (k : Nat) (t : Tick) (seen : List TSeen) (S : Shop σ), ShopOk sp S → TickOk t →
 Went sp k K S (goG und sp p k t seen S).1 ∧ ∀ r l, (goG und sp p k t seen S).2 = .ok (r, l) → (goG und sp p k t seen S).1.stack = S.stack ∧ ResOk r
 | 0, t, seen, S, hS, ht => ⟨Went.refl hS _ _, fun r l h => by cases h; exact ⟨rfl, by decide, by decide, by decide⟩⟩
 | k + 1, .fin c t s, seen, S, hS, ht => ⟨Went.refl hS _ _, fun r l h => by cases h; exact ⟨rfl, ht.1, ht.2.1, ht.2.2.1⟩⟩
 | k + 1, .go m, seen, S, hS, ht => ht.elim
 | k + 1, .look a n m, seen, S, hS, ht => by
   unfold goG
   by_cases ha : a = false
   ·rw [if_pos ha]
    subst ha
    obtain ⟨w, h⟩ := goG_ok hu hp k (toldR p false n m (hasR sp n, 0, ⟨#[]⟩)) (seen ++ [(n, false, flagS (hasR sp n))]) S hS (toldR_ok hp ht (by show 0 ≤ _; omega))
    exact ⟨w.weak (by omega), h⟩
   ·rw [if_neg ha]
    have ha' : a = true := by simpa using ha
    subst ha'
    have w1 := hu.went S n hS ht.1
    have w2 := hu.stack S n
    generalize hg : und S n = g at *
    obtain ⟨S', res⟩ := g
    cases res with
    | error e => exact ⟨w1.weak (by omega), fun r l h => by cases h⟩
    | ok r =>
      obtain ⟨h1, h2⟩ := w2 r hS ht.1 rfl
      obtain ⟨w, h⟩ := goG_ok hu hp k (toldR p true n m (hasR sp n, r.1, r.2)) (seen ++ [(n, true, formR r.1 r.2 [])]) S' w1.ok (toldR_ok hp ht h2.2.2)
      exact ⟨(w1.trans w).weak (by omega), fun r' l hr => by
       obtain ⟨k1, k2⟩ := h r' l hr
       exact ⟨k1.trans h1, k2⟩⟩
theorem fuelT_le (t : Tick) : fuelT t ≤ 202 := by cases t <;> unfold fuelT <;> simp only <;> omega
theorem goR_ok {sp : TSpace} {K : Nat} {und : Under σ} (hu : UndOk sp K und) {p : TProgram} (hp : ProgOk p) {t : Tick} (ht : TickOk t) (seen : List TSeen) {S : Shop σ} (hS : ShopOk sp S) :
 Went sp 202 K S (goR und sp p t seen S).1 ∧ ∀ r l, (goR und sp p t seen S).2 = .ok (r, l) → (goR und sp p t seen S).1.stack = S.stack ∧ ResOk r := by
 obtain ⟨w, h⟩ := goG_ok hu hp (fuelT t) t seen S hS ht
 exact ⟨w.weak (fuelT_le t), h⟩
end
theorem cleanMk_ok {sp : TSpace} : MkOk sp 202 (cleanMk sp) := by
 have key : ∀ und, UndOk sp 202 und → ∀ S n p, ShopOk sp S → ProgOk p → Went sp 202 202 S (cleanMk sp und S n p).1 ∧ ∀ r, (cleanMk sp und S n p).2 = .ok r → (cleanMk sp und S n p).1.stack = S.stack ∧ ResOk r := by
  intro und hu S n p hS hp
  obtain ⟨w, h⟩ := goR_ok hu hp (startR_ok hp) [] hS
  unfold cleanMk
  generalize goR und sp p (startR p) [] S = g at *
  obtain ⟨S', res⟩ := g
  cases res with
  | error e => exact ⟨w, fun r h => by cases h⟩
  | ok x =>
    obtain ⟨r, l⟩ := x
    obtain ⟨h1, h2⟩ := h r l rfl
    exact ⟨⟨⟨w.ok.nodup, w.ok.tg, w.ok.res⟩, w.le, w.asked, w.mono⟩, fun r' hr => by cases hr; exact ⟨h1, h2⟩⟩
 exact ⟨fun und hu S n p hS hp => (key und hu S n p hS hp).1, fun und hu S n p r hS hp h => (key und hu S n p hS hp).2 r h⟩
theorem shop0_ok (sp : TSpace) : ShopOk sp shop0 := ⟨by unfold begun shop0; simp, (by intro x hx; cases hx), (by intro x hx; cases hx)⟩
theorem cleanS_ok {sp : TSpace} (hsp : SpOk sp) {n : ByteArray} (hn : NameOk n) : Went sp 1 202 shop0 (cleanS sp n).1 ∧ ∀ r, (cleanS sp n).2 = .ok r → ResOk r :=
 ⟨(underG_ok hsp cleanMk_ok 60).went _ n (shop0_ok sp) hn, fun r h => ((underG_ok hsp cleanMk_ok 60).stack _ n r (shop0_ok sp) hn h).2⟩
end Go.AM
namespace Go.AM
open Go Go.RowKit
set_option linter.all false
section
variable {P : Program} {ng ro base : Nat} {w0 : World}
def PanE (P : Program) (ng ro base : Nat) (w0 : World) (ops : Array Oper) (l : List Nat) (e : Env) (A : AH) (v : Value) (e' : Env) (A' : AH) : Prop :=
 ∀ (m : Emb) (w : World) (a : Act) (Q : Exit → Act → World → Prop), Sim ng ro base w0 m A w → EnvRel m e a.tmps → (∀ o ∈ ops.toList, dstOk a.tmps.size ng o = true) →
   (∀ (m' : Emb) (a' : Act) (w' : World), Step ng ro base w0 m A w m' A' w' → a'.tmps.size = a.tmps.size → a'.defers = a.defers → EnvRel m' e' a'.tmps → ∀ v', VRel m' v v' → Q (.panic [{ v := v', recovered := false }]) a' w') →
   wpOps P ops Q l a w
def JE (P : Program) (ng ro base : Nat) (w0 : World) : Judg → AH → Out → AH → Prop
 | .ops ops none l e, A, .code (.pan v) e', A' => PanE P ng ro base w0 ops l e A v e' A'
 | _, _, _, _ => True
theorem PanE.pass {ops : Array Oper} {i : Nat} {l : List Nat} {e e' : Env} {A A' : AH} {o : Oper} {v : Value} (ho : ops[i]? = some o) (hw : aWanted ops o e = false)
 (k : PanE P ng ro base w0 ops l (e.put o.dst undef) A v e' A') : PanE P ng ro base w0 ops (i :: l) e A v e' A' := by
 intro m w a Q hS hE hok hK
 have ho' := hok o (by have := Array.mem_of_getElem? ho; simpa using this)
 have hwd : Region.wanted o (yielded ops a.tmps) = false := (wanted_ok (e := e) (fun _ _ d _ _ => hE d)).trans hw
 simp only [wpOps, ho, hwd, Bool.false_eq_true, if_false]
 exact k m w _ Q hS (hE.put (.undef m) (dst_lt ho')) (by rw [put_size]; exact hok) (fun m' a' w' hs h1 h2 hE' v' hv => hK m' a' w' hs (h1.trans put_size) (h2.trans put_defers) hE' v' hv)
theorem PanE.op {ops : Array Oper} {i : Nat} {l : List Nat} {e e' : Env} {A A1 A' : AH} {o : Oper} {u v : Value} (ho : ops[i]? = some o) (hw : aWanted ops o e = true) (hv : OpSound P ng ro base w0 o e A u A1)
 (k : PanE P ng ro base w0 ops l (e.put o.dst u) A1 v e' A') : PanE P ng ro base w0 ops (i :: l) e A v e' A' := by
 intro m w a Q hS hE hok hK
 have ho' := hok o (by have := Array.mem_of_getElem? ho; simpa using this)
 have hwd : Region.wanted o (yielded ops a.tmps) = true := (wanted_ok (e := e) (fun _ _ d _ _ => hE d)).trans hw
 simp only [wpOps, ho, hwd, if_true]
 refine .inl (hv m w a hS (evals hS hE ho') _ _ fun m' w' v' hs hr => ?_)
 exact k m' w' _ Q hs.sim ((hE.mono hs.le).put hr (dst_lt ho')) (by rw [put_size]; exact hok) (fun m2 a2 w2 hs2 h1 h2 hE' v2 hv2 => hK m2 a2 w2 (hs.trans hs2) (h1.trans put_size) (h2.trans put_defers) hE' v2 hv2)
theorem PanE.pan {ops : Array Oper} {i : Nat} {l : List Nat} {e : Env} {A A1 : AH} {o : Oper} {v : Value} (ho : ops[i]? = some o) (hw : aWanted ops o e = true) (hv : OpPan P ng ro base w0 o e A v A1) :
 PanE P ng ro base w0 ops (i :: l) e A v e A1 := by
 intro m w a Q hS hE hok hK
 have ho' := hok o (by have := Array.mem_of_getElem? ho; simpa using this)
 have hwd : Region.wanted o (yielded ops a.tmps) = true := (wanted_ok (e := e) (fun _ _ d _ _ => hE d)).trans hw
 simp only [wpOps, ho, hwd, if_true]
 exact .inl (hv m w a hS (evals hS hE ho') _ _ fun m' w' v' hs hr => hK m' a w' hs rfl rfl (hE.mono hs.le) v' hr)
theorem Big.panE {X : FuncId → List Value → AH → ARes → AH → Prop} (hng : ng = P.globals.size) (hm : P.follows .mixedOrders = true)
 (hX : ∀ f args A r A', X f args A r A' → CallSound P ng ro base w0 f args A r A' ∧ A.size ≤ A'.size) {j : Judg} {A : AH} {o : Out} {A' : AH} (h : Big P ro X j A o A') : JE P ng ro base w0 j A o A' := by
 induction h with
 | pass ho hw _ ih =>
   rename_i ops D i l e A o r A2 _
   cases D with
   | some S => exact trivial
   | none => cases r with
     | call r => exact trivial
     | code x e2 => cases x with
       | pan v => exact PanE.pass ho hw ih
       | _ => exact trivial
 | op ho hw hv hd _ ih =>
   rename_i ops D i l e A o v A1 r A2 _
   cases D with
   | some S => exact trivial
   | none => cases r with
     | call r => exact trivial
     | code x e2 => cases x with
       | pan v => exact PanE.op ho hw (opSound_of hv) ih
       | _ => exact trivial
 | call ho hw ht hb hd _ ih1 ih2 =>
   rename_i ops D i l e A o f args v A1 r A2 _
   cases D with
   | some S => exact trivial
   | none => cases r with
     | call r => exact trivial
     | code x e2 => cases x with
       | pan v => exact PanE.op ho hw (opSound_call (P := P) (ng := ng) (ro := ro) (base := base) (w0 := w0) ht (Big.sound hng hm hX hb).1) ih2
       | _ => exact trivial
 | callp ho hw ht hb hd ih =>
   rename_i ops D i l e A o f args v A1
   cases D with
   | some S => exact trivial
   | none => exact PanE.pan ho hw (opPan_call (P := P) (ng := ng) (ro := ro) (base := base) (w0 := w0) ht (Big.sound hng hm hX hb).1)
 | panic ho hw hx hv => exact PanE.pan ho hw (opPan_panic hx hv)
 | nil =>
   rename_i ops D e A
   cases D <;> exact trivial
 | _ => exact trivial
structure DefText (P : Program) (ng : Nat) (f : FuncId) (fn : Func) (pre : Code) (id t cap : Nat) (o1 o2 : Oper) (g : FuncId) (gfn : Func) (gid t1 t2 : Nat) (r1 r2 : Oper) (rest grest : Code) : Prop where
 hf : P.funcs[f]? = some fn
 hb : fn.body = some (.seq pre (.seq (.region id #[o1, o2] false) rest))
 hnm : (fn.name == "runtime.NumGoroutine") = false
 hd : (dstsOk fn.ntmps ng pre && dstsOk fn.ntmps ng rest && decide (t < fn.ntmps)) = true
 h1 : o1.op = .makeFunc (.func g) #[] #[.tmp cap] ∧ o1.dst = some t ∧ o1.guard = none
 h2 : o2.op = .defer ⟨.value (.tmp t), #[], #[]⟩ ∧ o2.dst = none ∧ o2.guard = none
 gf : P.funcs[g]? = some gfn
 gb : gfn.body = some (.seq (.region gid #[r1, r2] false) grest)
 gnm : (gfn.name == "runtime.NumGoroutine") = false
 gd : (dstsOk gfn.ntmps ng grest && decide (t1 < gfn.ntmps) && decide (t2 < gfn.ntmps) && decide (1 ≤ gfn.ntmps)) = true
 g1 : r1.op = .call ⟨.builtin .recover, #[], #[]⟩ ∧ r1.dst = some t1 ∧ r1.guard = none
 g2 : r2.op = .assign (.tmp t1) ∧ r2.dst = some t2 ∧ r2.guard = none
def gEnv (e : Env) (cap t1 t2 : Nat) (v : Value) : Env := ((Env.enter [e cap]).put (some t1) v).put (some t2) v
theorem deferred_wp {X : FuncId → List Value → AH → ARes → AH → Prop} (hng : ng = P.globals.size) (hm : P.follows .mixedOrders = true)
 (hX : ∀ f args A r A', X f args A r A' → CallSound P ng ro base w0 f args A r A' ∧ A.size ≤ A'.size) {g : FuncId} {gfn : Func} {gid t1 t2 : Nat} {r1 r2 : Oper} {grest : Code}
 (gf : P.funcs[g]? = some gfn) (gb : gfn.body = some (.seq (.region gid #[r1, r2] false) grest)) (gd : (dstsOk gfn.ntmps ng grest && decide (t1 < gfn.ntmps) && decide (t2 < gfn.ntmps) && decide (1 ≤ gfn.ntmps)) = true)
 (g1 : r1.op = .call ⟨.builtin .recover, #[], #[]⟩ ∧ r1.dst = some t1 ∧ r1.guard = none) (g2 : r2.op = .assign (.tmp t1) ∧ r2.dst = some t2 ∧ r2.guard = none)
 {m : Emb} {A A3 : AH} {w : World} {c c' : Value} {e3 : Env} {y : AExit} {gv : Value} {v v' : Value} {u u' : FrameMode}
 (hS : Sim ng ro base w0 m A w) (hc : VRel m c c') (hv : VRel m v v')
 (hu : (u = .returning ∧ u' = .returning ∧ v' = .nilIface) ∨ (u = .panicking [{ v := v', recovered := false }] ∧ u' = .panicking [{ v := v', recovered := true }]))
 (hg : Big P ro X (.code grest (((Env.enter [c]).put (some t1) v).put (some t2) v)) A (.code y e3) A3) (hy : y = .ret ∨ y = .normal) (hgv : aResults P A3 e3 gfn = some gv) :
 CallsD P g #[c'] u w fun e u2 w' => (∃ v, e = .returned v) ∧ u2 = u' ∧ ∃ m', Step ng ro base w0 m A w m' A3 w' := by
 simp only [Bool.and_eq_true, decide_eq_true_eq] at gd
 refine callsD_of_wpS gf gb fun c0 cs hc0 => ?_
 refine wpS_seq (wpS_region ?_)
 generalize ha : ({ tmps := #[c'] ++ Array.replicate (gfn.ntmps - #[c'].size) undef, defers := [] } : Act) = a
 have hE : EnvRel m (Env.enter [c]) a.tmps := by rw [← ha]; exact enter_ok (.cons _ _ _ _ hc .nil) _
 have hsz : a.tmps.size = gfn.ntmps := by rw [← ha]; simp; omega
 have hdf : a.defers = [] := by rw [← ha]
 obtain ⟨p1, p2, p3⟩ := g1
 obtain ⟨q1, q2, q3⟩ := g2
 have hrange : List.range (#[r1, r2] : Array Oper).size = [0, 1] := rfl
 have hx1 : (execOp a.eval r1).run P w = .ok .recover w := by simp [execOp, p1, resolve, invoke, builtin]
 have hw1 : Region.wanted r1 (yielded #[r1, r2] a.tmps) = true := by simp [Region.wanted, p3]
 have hrec : ∃ cs', (match recoverD (c0 :: cs) with | some (x, cs') => some (x, cs') | none => some (.nilIface, c0 :: cs)) = some (v', cs') ∧ cs' = { c0 with mode := u' } :: cs := by
  rcases hu with ⟨h1, h2, h3⟩ | ⟨h1, h2⟩
  ·subst h2 h3
   refine ⟨c0 :: cs, ?_, ?_⟩
   ·simp [recoverD, hc0, h1]
   ·have : ({ c0 with mode := .returning } : Frame) = c0 := by rw [← h1, ← hc0]
    rw [this]
  ·subst h2
   exact ⟨_, by simp [recoverD, hc0, h1], rfl⟩
 obtain ⟨cs', hr1, hr2⟩ := hrec
 have key : wpOpsS P #[r1, r2] (Exit.thenS (grest.wpS P (bodyPostS P gfn c0 cs fun e u2 w' => (∃ v, e = .returned v) ∧ u2 = u' ∧ ∃ m', Step ng ro base w0 m A w m' A3 w')) (bodyPostS P gfn c0 cs fun e u2 w' => (∃ v, e = .returned v) ∧ u2 = u' ∧ ∃ m', Step ng ro base w0 m A w m' A3 w')) [1] (a.put r1.dst v') cs' w := by
  have hx2 : (execOp (a.put r1.dst v').eval r2).run P w = .ok (.value v') w := by
   have : (a.put r1.dst v').eval (.tmp t1) = v' := by simp [Act.eval, Act.put, p2, hsz, gd.1.1.2]
   simp [execOp, q1, this]
  have hw2 : Region.wanted r2 (yielded #[r1, r2] (a.put r1.dst v').tmps) = true := by simp [Region.wanted, q3]
  simp only [wpOpsS, List.getElem?_toArray, List.getElem?_cons_succ, List.getElem?_cons_zero, hw2, if_true, hx2]
  rw [Oper.upon_value]
  show Exit.thenS _ _ .normal _ _ _
  refine wpS_of_wp ?_
  have hE2 : EnvRel m (((Env.enter [c]).put (some t1) v).put (some t2) v) ((a.put r1.dst v').put r2.dst v').tmps := by
   rw [p2, q2]
   exact (hE.put hv (fun x hx => by cases hx; rw [hsz]; exact gd.1.1.2)).put hv (fun x hx => by cases hx; rw [put_size, hsz]; exact gd.1.2)
  refine ((Big.sound hng hm hX hg).1.1 m w _ _ hS hE2 (by rw [put_size, put_size, hsz]; exact gd.1.1.1) ?_)
  intro m3 a3 w3 hs3 h31 h32
  have hdf3 : a3.defers = [] := by rw [h32, put_defers, put_defers]; exact hdf
  rcases hy with rfl | rfl
  ·intro hE3
   obtain ⟨rv, hrv, _⟩ := results_ok (P := P) hs3.sim hE3 hgv
   exact ⟨hdf3, u', hr2, rv, hrv, ⟨rv, rfl⟩, rfl, m3, hs3⟩
  ·intro hE3
   obtain ⟨rv, hrv, _⟩ := results_ok (P := P) hs3.sim hE3 hgv
   exact ⟨hdf3, u', hr2, rv, hrv, ⟨rv, rfl⟩, rfl, m3, hs3⟩
 rw [hrange]
 unfold wpOpsS
 simp only [List.getElem?_toArray, List.getElem?_cons_zero, hw1, if_true, hx1]
 cases hrd : recoverD (c0 :: cs) with
 | none =>
   rw [hrd] at hr1
   simp only [Option.some.injEq, Prod.mk.injEq] at hr1
   obtain ⟨e1, e2⟩ := hr1
   simp only
   rw [e1, e2]
   exact key
 | some x =>
   obtain ⟨x1, x2⟩ := x
   rw [hrd] at hr1
   simp only [Option.some.injEq, Prod.mk.injEq] at hr1
   obtain ⟨e1, e2⟩ := hr1
   simp only
   rw [e1, e2]
   exact key
inductive XD (P : Program) (ng ro : Nat) (X : FuncId → List Value → AH → ARes → AH → Prop) (f : FuncId) (args : List Value) (A : AH) : ARes → AH → Prop
 | done {fn : Func} {pre : Code} {id t cap : Nat} {o1 o2 : Oper} {g : FuncId} {gfn : Func} {gid t1 t2 : Nat} {r1 r2 : Oper} {rest grest : Code} {e1 e2 e3 : Env} {A1 A2 A3 : AH} {x y : AExit} {v gv : Value}
  (hT : DefText P ng f fn pre id t cap o1 o2 g gfn gid t1 t2 r1 r2 rest grest) (ha : args.length ≤ fn.ntmps)
  (hpre : Big P ro X (.code pre (Env.enter args)) A (.code .normal e1) A1)
  (hrest : Big P ro X (.code rest (e1.put (some t) (.func (.func g) #[] #[e1 cap]))) A1 (.code x e2) A2) (hx : x = .ret ∨ x = .normal)
  (hg : Big P ro X (.code grest (gEnv e1 cap t1 t2 .nilIface)) A2 (.code y e3) A3) (hy : y = .ret ∨ y = .normal) (hgv : aResults P A3 e3 gfn = some gv)
  (hres : aResults P A3 e2 fn = some v) : XD P ng ro X f args A (.ret v) A3
 | caught {fn : Func} {pre : Code} {id t cap : Nat} {o1 o2 : Oper} {g : FuncId} {gfn : Func} {gid t1 t2 : Nat} {r1 r2 : Oper} {rid : Nat} {rops : Array Oper} {rest2 grest : Code} {e1 e2 e3 : Env} {A1 A2 A3 : AH} {y : AExit} {p v gv : Value}
  (hT : DefText P ng f fn pre id t cap o1 o2 g gfn gid t1 t2 r1 r2 (.seq (.region rid rops false) rest2) grest) (ha : args.length ≤ fn.ntmps)
  (hpre : Big P ro X (.code pre (Env.enter args)) A (.code .normal e1) A1)
  (hrest : Big P ro X (.ops rops none (List.range rops.size) (e1.put (some t) (.func (.func g) #[] #[e1 cap]))) A1 (.code (.pan p) e2) A2)
  (hg : Big P ro X (.code grest (gEnv e1 cap t1 t2 p)) A2 (.code y e3) A3) (hy : y = .ret ∨ y = .normal) (hgv : aResults P A3 e3 gfn = some gv)
  (hres : aResults P A3 e2 fn = some v) : XD P ng ro X f args A (.ret v) A3
theorem XD.sound {X : FuncId → List Value → AH → ARes → AH → Prop} (hng : ng = P.globals.size) (hm : P.follows .mixedOrders = true)
 (hX : ∀ f args A r A', X f args A r A' → CallSound P ng ro base w0 f args A r A' ∧ A.size ≤ A'.size) {f : FuncId} {args : List Value} {A : AH} {r : ARes} {A' : AH} (h : XD P ng ro X f args A r A') :
 CallSound P ng ro base w0 f args A r A' ∧ A.size ≤ A'.size := by
 have enter : ∀ {fn : Func} {c : Code}, P.funcs[f]? = some fn → fn.body = some c → (fn.name == "runtime.NumGoroutine") = false → ∀ (as : Array Value) (w : World), (callFunc f as).run P w = .ok (.enter f as) w := by
  intro fn c hf hb hnm as w
  simp [callFunc, hf, hb]
  exact fun e => by rw [e] at hnm; simp at hnm
 have two : ∀ {fn : Func} {pre : Code} {id t cap : Nat} {o1 o2 : Oper} {g : FuncId} {gfn : Func} {gid t1 t2 : Nat} {r1 r2 : Oper} {rest grest : Code} (hT : DefText P ng f fn pre id t cap o1 o2 g gfn gid t1 t2 r1 r2 rest grest)
  {m1 : Emb} {e1 : Env} {a1 : Act} {w1 : World} {Q : Exit → Act → World → Prop}, EnvRel m1 e1 a1.tmps → a1.tmps.size = fn.ntmps → a1.defers = [] →
  (∀ a3 : Act, a3.tmps.size = fn.ntmps → EnvRel m1 (e1.put (some t) (.func (.func g) #[] #[e1 cap])) a3.tmps → (∃ c', VRel m1 (e1 cap) c' ∧ a3.defers = [{ target := .fn (.func g) #[c'], args := #[] }]) → Q .normal a3 w1) →
  (Code.region id #[o1, o2] false).wp P Q a1 w1 := by
  intro fn pre id t cap o1 o2 g gfn gid t1 t2 r1 r2 rest grest hT m1 e1 a1 w1 Q hE hsz hdf hK
  have hd := hT.hd
  simp only [Bool.and_eq_true, decide_eq_true_eq] at hd
  obtain ⟨p1, p2, p3⟩ := hT.h1
  obtain ⟨q1, q2, q3⟩ := hT.h2
  have hx1 : (execOp a1.eval o1).run P w1 = .ok (.value (.func (.func g) #[] #[a1.eval (.tmp cap)])) w1 := by simp [execOp, p1, Instr.makeFunc]
  have hev : (a1.put o1.dst (.func (.func g) #[] #[a1.eval (.tmp cap)])).eval (.tmp t) = .func (.func g) #[] #[a1.eval (.tmp cap)] := by simp [Act.eval, Act.put, p2, hsz, hd.2]
  have hx2 : (execOp (a1.put o1.dst (.func (.func g) #[] #[a1.eval (.tmp cap)])).eval o2).run P w1 = .ok (.defer { target := .fn (.func g) #[a1.eval (.tmp cap)], args := #[] }) w1 := by
   simp [execOp, q1, resolve, hev, Deferred.ofValue]
  have hw1 : Region.wanted o1 (yielded #[o1, o2] a1.tmps) = true := by simp [Region.wanted, p3]
  have hw2 : Region.wanted o2 (yielded #[o1, o2] (a1.put o1.dst (.func (.func g) #[] #[a1.eval (.tmp cap)])).tmps) = true := by simp [Region.wanted, q3]
  refine wp_region ?_
  rw [show List.range (#[o1, o2] : Array Oper).size = [0, 1] from rfl]
  unfold wpOps
  simp only [List.getElem?_toArray, List.getElem?_cons_zero, hw1, if_true]
  refine .inl ?_
  unfold Oper.wp
  rw [hx1, Oper.upon_value]
  unfold wpOps
  simp only [List.getElem?_toArray, List.getElem?_cons_succ, List.getElem?_cons_zero, hw2, if_true]
  refine .inl ?_
  unfold Oper.wp
  rw [hx2, Oper.upon_defer]
  have hcap : VRel m1 (e1 cap) (a1.eval (.tmp cap)) := hE cap
  refine hK _ ?_ ?_ ⟨_, hcap, ?_⟩
  ·rw [put_size]; show (a1.put _ _).tmps.size = _; rw [put_size]; exact hsz
  ·rw [q2, p2]
   exact hE.put (.func _ _ _ _ _ .nil (.cons _ _ _ _ hcap .nil)) (fun x hx => by cases hx; rw [hsz]; exact hd.2)
  ·rw [put_defers]
   show _ :: (a1.put _ _).defers = _
   rw [put_defers, hdf]
 cases h with
 | @done fn pre id t cap o1 o2 g gfn gid t1 t2 r1 r2 rest grest e1 e2 e3 A1 A2 A3 x y v gv hT ha hpre hrest hx hg hy hgv hres =>
   have s1 := Big.sound hng hm hX hpre
   have s2 := Big.sound hng hm hX hrest
   have s3 := Big.sound hng hm hX hg
   have hd := hT.hd
   simp only [Bool.and_eq_true, decide_eq_true_eq] at hd
   refine ⟨fun m w args' hS hA => .inl ⟨enter hT.hf hT.hb hT.hnm _ _, calls_of_wp_defers hT.hf hT.hb ?_⟩, Nat.le_trans s1.2 (Nat.le_trans s2.2 s3.2)⟩
   have hl := hA.length
   have hsz0 : (args'.toArray ++ Array.replicate (fn.ntmps - args'.toArray.size) undef).size = fn.ntmps := by simp; omega
   refine wp_seq (s1.1.1 m w _ _ hS (enter_ok hA _) (by rw [hsz0]; exact hd.1.1) ?_)
   intro m1 a1 w1 hs1 h11 h12 hE1
   show Exit.then _ _ .normal _ _
   refine wp_seq (two hT hE1 (h11.trans hsz0) h12 ?_)
   rintro a3 h31 hE3 ⟨c', hc, hdf⟩
   show Exit.then _ _ .normal _ _
   refine s2.1.1 m1 w1 a3 _ hs1.sim hE3 (by rw [h31]; exact hd.1.2) ?_
   intro m4 a4 w4 hs4 h41 h42
   have main : EnvRel m4 e2 a4.tmps → Leaves P fn a4.tmps (EndRel ng ro base w0 m A w A' (.ret v)) a4.defers .returning w4 := by
    intro hE4
    rw [h42, hdf]
    refine leaves_cons (by simp) (f := g) (args := #[] ++ #[c']) ?_ ?_
    ·show (callFunc g (#[] ++ #[c'])).run P w4 = _
     simp [callFunc, hT.gf, hT.gb]
     exact fun e => by have := hT.gnm; rw [e] at this; simp at this
    ·refine (deferred_wp hng hm hX hT.gf hT.gb hT.gd hT.g1 hT.g2 (c := e1 cap) (v := .nilIface) (v' := .nilIface) (u := .returning) (u' := .returning) hs4.sim (hc.mono hs4.le) .nilIface (.inl ⟨rfl, rfl, rfl⟩) hg hy hgv).mono ?_
     rintro e u2 w5 ⟨⟨rv, rfl⟩, rfl, m5, hs5⟩
     obtain ⟨v', hv1, hv2⟩ := results_ok (P := P) hs5.sim (hE4.mono hs5.le) hres
     exact ⟨v', hv1, m5, (hs1.trans hs4).trans hs5, hv2⟩
   rcases hx with rfl | rfl
   ·exact main
   ·exact main
 | @caught fn pre id t cap o1 o2 g gfn gid t1 t2 r1 r2 rid rops rest2 grest e1 e2 e3 A1 A2 A3 y p v gv hT ha hpre hrest hg hy hgv hres =>
   have s1 := Big.sound hng hm hX hpre
   have s2 : PanE P ng ro base w0 rops (List.range rops.size) _ A1 p e2 A2 := Big.panE hng hm hX hrest
   have s2' := Big.sound hng hm hX hrest
   have s3 := Big.sound hng hm hX hg
   have hd := hT.hd
   simp only [Bool.and_eq_true, decide_eq_true_eq, dstsOk] at hd
   refine ⟨fun m w args' hS hA => .inl ⟨enter hT.hf hT.hb hT.hnm _ _, calls_of_wp_defers hT.hf hT.hb ?_⟩, Nat.le_trans s1.2 (Nat.le_trans s2'.2 s3.2)⟩
   have hl := hA.length
   have hsz0 : (args'.toArray ++ Array.replicate (fn.ntmps - args'.toArray.size) undef).size = fn.ntmps := by simp; omega
   refine wp_seq (s1.1.1 m w _ _ hS (enter_ok hA _) (by rw [hsz0]; exact hd.1.1) ?_)
   intro m1 a1 w1 hs1 h11 h12 hE1
   show Exit.then _ _ .normal _ _
   refine wp_seq (two hT hE1 (h11.trans hsz0) h12 ?_)
   rintro a3 h31 hE3 ⟨c', hc, hdf⟩
   show Exit.then _ _ .normal _ _
   refine wp_seq (wp_region (s2 m1 w1 a3 _ hs1.sim hE3 (by rw [h31]; exact List.all_eq_true.1 hd.1.2.1) ?_))
   intro m4 a4 w4 hs4 h41 h42 hE4 p' hp
   show Leaves P fn a4.tmps _ a4.defers (.panicking [{ v := p', recovered := false }]) w4
   rw [h42, hdf]
   refine leaves_cons (by simp) (f := g) (args := #[] ++ #[c']) ?_ ?_
   ·show (callFunc g (#[] ++ #[c'])).run P w4 = _
    simp [callFunc, hT.gf, hT.gb]
    exact fun e => by have := hT.gnm; rw [e] at this; simp at this
   ·refine (deferred_wp hng hm hX hT.gf hT.gb hT.gd hT.g1 hT.g2 (c := e1 cap) (v := p) (v' := p') (u := .panicking [{ v := p', recovered := false }]) (u' := .panicking [{ v := p', recovered := true }]) hs4.sim (hc.mono hs4.le) hp (.inr ⟨rfl, rfl⟩) hg hy hgv).mono ?_
    rintro e u2 w5 ⟨⟨rv, rfl⟩, rfl, m5, hs5⟩
    obtain ⟨v', hv1, hv2⟩ := results_ok (P := P) hs5.sim (hE4.mono hs5.le) hres
    exact ⟨v', hv1, m5, (hs1.trans hs4).trans hs5, hv2⟩
end
end Go.AM
namespace Go.AM
open Go
set_option linter.all false
def madeV (r : TRes) : Value := .agg #[.int .i64 r.1, .string r.2, Sl.nil.v]
structure Mkc where
 B : AH
 b1 : Nat
 b2 : Nat
 b3 : Nat
 b4 : Nat
 p : Nat
 cv : Nat
 top : Nat
 fv : Value
 sp : TSpace
structure Mkc.Ok (K : Mkc) : Prop where
 h1 : K.B.size ≤ K.b1
 h2 : K.b1 < K.b2
 h3 : K.b2 < K.b3
 h4 : K.b3 < K.b4
 h5 : K.b4 < K.p
 h6 : K.p < K.cv
 h7 : K.cv < K.top
def SrcM (sp : TSpace) (es : SMap) : Prop := ∀ n, lk es n = (srcR sp n).map Value.string
def TgtM (B : AH) (sp : TSpace) (es : SMap) : Prop :=
 ∀ n, (tgtR sp n = none → lk es n = none) ∧ ∀ q, tgtR sp n = some q → ∃ s F, lk es n = some (.agg #[s.v]) ∧ SlR B s q F
structure MkK (K : Mkc) (A : AH) : Prop where
 nums : K.Ok
 base : Ext K.B A
 top : K.top ≤ A.size
 src : ∃ es, A.get K.b1 = .map (mp es) ∧ SrcM K.sp es
 tgt : ∃ es, A.get K.b2 = .map (mp es) ∧ TgtM K.B K.sp es
 cell : A.get K.cv = .cells [.pointer (some ⟨K.p, 0, none⟩)] 1
theorem MkK.frame {K : Mkc} {A A' : AH} (h : MkK K A) (hz : A.size ≤ A'.size) (hg : ∀ b, b < K.top → b ≠ K.p → b ≠ K.b3 → b ≠ K.b4 → A'.get b = A.get b) : MkK K A' := by
 obtain ⟨n1, n2, n3, n4, n5, n6, n7⟩ := h.nums
 have ht := h.top
 refine ⟨h.nums, ⟨by have := h.base.size; omega, fun b hb => (hg b (by omega) (by omega) (by omega) (by omega)).trans (h.base.get b hb)⟩, by omega, ?_, ?_, (hg _ (by omega) (by omega) (by omega) (by omega)).trans h.cell⟩
 ·obtain ⟨es, h1, h2⟩ := h.src
  exact ⟨es, (hg _ (by omega) (by omega) (by omega) (by omega)).trans h1, h2⟩
 ·obtain ⟨es, h1, h2⟩ := h.tgt
  exact ⟨es, (hg _ (by omega) (by omega) (by omega) (by omega)).trans h1, h2⟩
def own (s : Sl) : List Nat := if s.nl = true then [] else [s.b]
theorem mem_own {s : Sl} {b : Nat} : b ∈ own s ↔ s.nl = false ∧ b = s.b := by
 unfold own
 cases s.nl <;> simp
def ftp (K : Mkc) (os ms : Sl) (FJ : List Nat) : List Nat := [K.p, K.b3, K.b4] ++ own os ++ own ms ++ FJ
theorem mem_ftp {K : Mkc} {os ms : Sl} {FJ : List Nat} {b : Nat} : b ∈ ftp K os ms FJ ↔ b = K.p ∨ b = K.b3 ∨ b = K.b4 ∨ (os.nl = false ∧ b = os.b) ∨ (ms.nl = false ∧ b = ms.b) ∨ b ∈ FJ := by
 unfold ftp
 simp only [List.mem_append, List.mem_cons, List.not_mem_nil, or_false, mem_own]
 simp only [or_assoc]
section
variable {σ : Type}
structure JOk (top : Nat) (J : AH → σ → List Nat → Prop) : Prop where
 frame : ∀ A A' x F, J A x F → A.size ≤ A'.size → (∀ b ∈ F, A'.get b = A.get b) → J A' x F
def mcV (K : Mkc) (os ms : Sl) : List Value := [.map (some K.b1), .map (some K.b2), .map (some K.b3), os.v, .map (some K.b4), ms.v, K.fv]
structure MkV (K : Mkc) (J : AH → σ → List Nat → Prop) (A : AH) (S : Shop σ) (os ms : Sl) (es3 es4 : SMap) (FJ : List Nat) : Prop where
 k : MkK K A
 gp : A.get K.p = .cells (mcV K os ms) 7
 g3 : A.get K.b3 = .map (mp es3)
 m3 : ∀ n, lk es3 n = (lookL n S.made).map madeV
 g4 : A.get K.b4 = .map (mp es4)
 m4 : ∀ n, lk es4 n = if (idxL n S.asked).isSome then some (.bool true) else none
 so : Stk K.top A os S.asked
 sm : Stk K.top A ms S.stack
 ne : os.nl = false → ms.nl = false → os.b ≠ ms.b
 j : J A S.ext FJ
 jl : ∀ b ∈ FJ, K.top ≤ b ∧ b < A.size ∧ (os.nl = false → b ≠ os.b) ∧ (ms.nl = false → b ≠ ms.b)
def MkStep (K : Mkc) (J : AH → σ → List Nat → Prop) (A : AH) (F : List Nat) (S' : Shop σ) (A' : AH) : Prop :=
 ∃ os ms es3 es4 FJ, MkV K J A' S' os ms es3 es4 FJ ∧ ExtX F A A' ∧ ∀ b ∈ ftp K os ms FJ, b ∈ F ∨ A.size ≤ b
variable {K : Mkc} {J : AH → σ → List Nat → Prop} {A A' A'' : AH} {S S' : Shop σ} {os ms os' ms' : Sl} {es3 es4 : SMap} {FJ F F' : List Nat}
theorem Stk.bd {lo : Nat} {s : Sl} {l : List ByteArray} (h : Stk lo A s l) (hn : s.nl = false) : lo ≤ s.b ∧ s.b < A.size := by
 rcases h with ⟨rfl, _⟩ | ⟨_, h2, h3, _⟩
 ·cases hn
 ·exact ⟨h2, h3⟩
theorem MkV.bound (h : MkV K J A S os ms es3 es4 FJ) : ∀ b ∈ ftp K os ms FJ, b < A.size ∧ (K.top ≤ b ∨ b = K.p ∨ b = K.b3 ∨ b = K.b4) := by
 obtain ⟨n1, n2, n3, n4, n5, n6, n7⟩ := h.k.nums
 have ht := h.k.top
 intro b hb
 rcases mem_ftp.1 hb with rfl | rfl | rfl | ⟨hn, rfl⟩ | ⟨hn, rfl⟩ | hb
 ·exact ⟨by omega, by simp⟩
 ·exact ⟨by omega, by simp⟩
 ·exact ⟨by omega, by simp⟩
 ·have := h.so.bd hn; omega
 ·have := h.sm.bd hn; omega
 ·have := h.jl b hb; omega
theorem MkV.frame (hJ : JOk K.top J) (h : MkV K J A S os ms es3 es4 FJ) (hz : A.size ≤ A'.size) (hg : ∀ b, b < A.size → (b < K.top ∨ b ∈ ftp K os ms FJ) → A'.get b = A.get b) : MkV K J A' S os ms es3 es4 FJ := by
 obtain ⟨n1, n2, n3, n4, n5, n6, n7⟩ := h.k.nums
 have ht := h.k.top
 refine ⟨h.k.frame hz fun b hb _ _ _ => hg b (by omega) (.inl hb), (hg _ (by omega) (.inl (by omega))).trans h.gp, (hg _ (by omega) (.inl (by omega))).trans h.g3, h.m3, (hg _ (by omega) (.inl (by omega))).trans h.g4, h.m4, h.so.frame hz fun hn => hg _ (h.so.bd hn).2 (.inr (mem_ftp.2 (by simp [hn]))), h.sm.frame hz fun hn => hg _ (h.sm.bd hn).2 (.inr (mem_ftp.2 (by simp [hn]))), h.ne, hJ.frame _ _ _ _ h.j hz fun b hb => hg _ (h.jl b hb).2.1 (.inr (mem_ftp.2 (by simp [hb]))), fun b hb => ?_⟩
 have := h.jl b hb
 exact ⟨this.1, by omega, this.2.2⟩
theorem MkV.ext (hJ : JOk K.top J) (h : MkV K J A S os ms es3 es4 FJ) (hE : Ext A A') : MkV K J A' S os ms es3 es4 FJ := h.frame hJ hE.size fun b hb _ => hE.get b hb
theorem MkV.extx (hJ : JOk K.top J) (h : MkV K J A S os ms es3 es4 FJ) {G : List Nat} (hE : ExtX G A A') (hG : ∀ b ∈ G, K.top ≤ b ∧ b ∉ ftp K os ms FJ) : MkV K J A' S os ms es3 es4 FJ :=
 h.frame hJ hE.size fun b hb hm => hE.get b hb fun hx => by
  have := hG b hx
  rcases hm with h | h
  ·omega
  ·exact this.2 h
theorem MkV.step (h : MkV K J A S os ms es3 es4 FJ) : MkStep K J A (ftp K os ms FJ) S A := ⟨os, ms, es3, es4, FJ, h, ExtX.refl _ _, fun b hb => .inl hb⟩
theorem MkStep.after {A0 : AH} (h : MkStep K J A F S' A') (hE : ExtX F A0 A) : MkStep K J A0 F S' A' := by
 obtain ⟨os, ms, es3, es4, FJ, h1, h2, h3⟩ := h
 refine ⟨os, ms, es3, es4, FJ, h1, hE.trans h2, fun b hb => ?_⟩
 have := hE.size
 rcases h3 b hb with h | h
 ·exact .inl h
 ·exact .inr (by omega)
theorem MkStep.grow (hJ : JOk K.top J) (h : MkStep K J A F S' A') (hE : Ext A' A'') : MkStep K J A F S' A'' := by
 obtain ⟨os, ms, es3, es4, FJ, h1, h2, h3⟩ := h
 exact ⟨os, ms, es3, es4, FJ, h1.ext hJ hE, h2.trans (hE.x _), h3⟩
theorem MkV.asked (hJ : JOk K.top J) (h : MkV K J A S os ms es3 es4 FJ) {n : ByteArray} (hz : A.size ≤ A'.size)
 (hg : ∀ b, b < A.size → b ≠ K.p → b ≠ K.b4 → (os.nl = false → b ≠ os.b) → A'.get b = A.get b)
 (hp : A'.get K.p = .cells (mcV K os' ms) 7) (h4 : A'.get K.b4 = .map (mp (kset es4 n (.bool true)))) (hs : Stk K.top A' os' (S.asked ++ [n])) (hb : os'.nl = false → (os'.b = os.b ∧ os.nl = false) ∨ A.size ≤ os'.b) :
 MkV K J A' ⟨S.asked ++ [n], S.made, S.stack, S.ext⟩ os' ms es3 (kset es4 n (.bool true)) FJ ∧ ExtX (ftp K os ms FJ) A A' ∧ ∀ b ∈ ftp K os' ms FJ, b ∈ ftp K os ms FJ ∨ A.size ≤ b := by
 obtain ⟨n1, n2, n3, n4, n5, n6, n7⟩ := h.k.nums
 have ht := h.k.top
 have hob := h.so.bd
 have hmb := h.sm.bd
 refine ⟨⟨h.k.frame hz fun b hb h1 h2 h3 => hg b (by omega) h1 h3 fun hn => by have := hob hn; omega, hp, (hg _ (by omega) (by omega) (by omega) fun hn => by have := hob hn; omega).trans h.g3, h.m3, h4, fun m => ?_, hs, h.sm.frame hz fun hn => hg _ (hmb hn).2 (by have := hmb hn; omega) (by have := hmb hn; omega) fun hn' => Ne.symm (h.ne hn' hn), fun hn hn' => ?_, hJ.frame _ _ _ _ h.j hz fun b hb => ?_, fun b hb' => ?_⟩, ⟨hz, fun b hb hm => ?_⟩, fun b hb' => ?_⟩
 ·rw [lk_kset, h.m4]
  have key : ∀ l : List ByteArray, (idxL m (l ++ [n])).isSome = ((idxL m l).isSome || decide (n = m)) := by
   intro l
   induction l with
   | nil => by_cases e : n = m <;> simp [idxL, e]
   | cons x l ih =>
     simp only [List.cons_append, idxL]
     by_cases e : x = m
     ·simp [e]
     ·simp [e, ih]
  simp only [key]
  by_cases e : m = n
  ·subst e; simp
  ·have e' : ¬ n = m := fun k => e k.symm
   simp [e, e']
 ·rcases hb hn with ⟨k1, k2⟩ | k
  ·rw [k1]; exact h.ne k2 hn'
  ·have := hmb hn'; omega
 ·have := h.jl b hb
  exact hg b this.2.1 (by omega) (by omega) this.2.2.1
 ·have := h.jl b hb'
  refine ⟨this.1, by omega, fun hn => ?_, this.2.2.2⟩
  rcases hb hn with ⟨k1, k2⟩ | k
  ·rw [k1]; exact this.2.2.1 k2
  ·omega
 ·refine hg b hb (fun e => hm (mem_ftp.2 (by simp [e]))) (fun e => hm (mem_ftp.2 (by simp [e]))) (fun hn e => hm (mem_ftp.2 (by simp [hn, e])))
 ·rcases mem_ftp.1 hb' with e | e | e | ⟨hn, e⟩ | ⟨hn, e⟩ | e
  ·exact .inl (mem_ftp.2 (by simp [e]))
  ·exact .inl (mem_ftp.2 (by simp [e]))
  ·exact .inl (mem_ftp.2 (by simp [e]))
  ·rcases hb hn with ⟨k1, k2⟩ | k
   ·exact .inl (mem_ftp.2 (by simp [e, k1, k2]))
   ·exact .inr (by omega)
  ·exact .inl (mem_ftp.2 (by simp [e, hn]))
  ·exact .inl (mem_ftp.2 (by simp [e]))
theorem MkV.stack (hJ : JOk K.top J) (h : MkV K J A S os ms es3 es4 FJ) {l : List ByteArray} (hz : A.size ≤ A'.size)
 (hg : ∀ b, b < A.size → b ≠ K.p → (ms.nl = false → b ≠ ms.b) → A'.get b = A.get b)
 (hp : A'.get K.p = .cells (mcV K os ms') 7) (hs : Stk K.top A' ms' l) (hb : ms'.nl = false → (ms'.b = ms.b ∧ ms.nl = false) ∨ A.size ≤ ms'.b) :
 MkV K J A' ⟨S.asked, S.made, l, S.ext⟩ os ms' es3 es4 FJ ∧ ExtX (ftp K os ms FJ) A A' ∧ ∀ b ∈ ftp K os ms' FJ, b ∈ ftp K os ms FJ ∨ A.size ≤ b := by
 obtain ⟨n1, n2, n3, n4, n5, n6, n7⟩ := h.k.nums
 have ht := h.k.top
 have hob := h.so.bd
 have hmb := h.sm.bd
 refine ⟨⟨h.k.frame hz fun b hb h1 h2 h3 => hg b (by omega) h1 fun hn => by have := hmb hn; omega, hp, (hg _ (by omega) (by omega) fun hn => by have := hmb hn; omega).trans h.g3, h.m3, (hg _ (by omega) (by omega) fun hn => by have := hmb hn; omega).trans h.g4, h.m4, h.so.frame hz fun hn => hg _ (hob hn).2 (by have := hob hn; omega) fun hn' => h.ne hn hn', hs, fun hn hn' => ?_, hJ.frame _ _ _ _ h.j hz fun b hb => ?_, fun b hb' => ?_⟩, ⟨hz, fun b hb hm => ?_⟩, fun b hb' => ?_⟩
 ·rcases hb hn' with ⟨k1, k2⟩ | k
  ·rw [k1]; exact h.ne hn k2
  ·have := hob hn; omega
 ·have := h.jl b hb
  exact hg b this.2.1 (by omega) this.2.2.2
 ·have := h.jl b hb'
  refine ⟨this.1, by omega, this.2.2.1, fun hn => ?_⟩
  rcases hb hn with ⟨k1, k2⟩ | k
  ·rw [k1]; exact this.2.2.2 k2
  ·omega
 ·refine hg b hb (fun e => hm (mem_ftp.2 (by simp [e]))) (fun hn e => hm (mem_ftp.2 (by simp [hn, e])))
 ·rcases mem_ftp.1 hb' with e | e | e | ⟨hn, e⟩ | ⟨hn, e⟩ | e
  ·exact .inl (mem_ftp.2 (by simp [e]))
  ·exact .inl (mem_ftp.2 (by simp [e]))
  ·exact .inl (mem_ftp.2 (by simp [e]))
  ·exact .inl (mem_ftp.2 (by simp [e, hn]))
  ·rcases hb hn with ⟨k1, k2⟩ | k
   ·exact .inl (mem_ftp.2 (by simp [e, k1, k2]))
   ·exact .inr (by omega)
  ·exact .inl (mem_ftp.2 (by simp [e]))
theorem lookL_snoc {α : Type} {n m : ByteArray} {r : α} : ∀ (l : List (ByteArray × α)), lookL m (l ++ [(n, r)]) = match lookL m l with | some x => some x | none => if n = m then some r else none
 | [] => by by_cases e : n = m <;> simp [lookL, e]
 | x :: l => by
   simp only [List.cons_append, lookL]
   by_cases e : x.1 = m
   ·simp [e]
   ·simp only [e, if_false]; exact lookL_snoc l
theorem MkV.mades (hJ : JOk K.top J) (h : MkV K J A S os ms es3 es4 FJ) {n : ByteArray} {r : TRes} (hn : lookL n S.made = none) (hz : A.size ≤ A'.size)
 (hg : ∀ b, b < A.size → b ≠ K.b3 → A'.get b = A.get b) (h3 : A'.get K.b3 = .map (mp (kset es3 n (madeV r)))) :
 MkV K J A' (madeS S n r) os ms (kset es3 n (madeV r)) es4 FJ ∧ ExtX (ftp K os ms FJ) A A' := by
 obtain ⟨n1, n2, n3, n4, n5, n6, n7⟩ := h.k.nums
 have ht := h.k.top
 have hob := h.so.bd
 have hmb := h.sm.bd
 refine ⟨⟨h.k.frame hz fun b hb h1 h2 h3 => hg b (by omega) h2, (hg _ (by omega) (by omega)).trans h.gp, h3, fun m => ?_, (hg _ (by omega) (by omega)).trans h.g4, h.m4, h.so.frame hz fun hn => hg _ (hob hn).2 (by have := hob hn; omega), h.sm.frame hz fun hn => hg _ (hmb hn).2 (by have := hmb hn; omega), h.ne, hJ.frame _ _ _ _ h.j hz fun b hb => ?_, fun b hb' => ?_⟩, ⟨hz, fun b hb hm => ?_⟩⟩
 ·rw [lk_kset, h.m3]
  show _ = (lookL m (S.made ++ [(n, r)])).map madeV
  rw [lookL_snoc]
  by_cases e : m = n
  ·subst e; rw [hn]; simp
  ·have e' : ¬ n = m := fun k => e k.symm
   simp only [e, e', if_false]
   cases lookL m S.made <;> rfl
 ·have := h.jl b hb
  exact hg b this.2.1 (by omega)
 ·have := h.jl b hb'
  exact ⟨this.1, by omega, this.2.2⟩
 ·exact hg b hb fun e => hm (mem_ftp.2 (by simp [e]))
def Room (C : Nat) (sp : TSpace) (k : Nat) (S : Shop σ) : Prop := S.asked.length + k + C * (sp.2.length - (begun sp S).length) < 4294967295
theorem Room.went {C j k : Nat} {sp : TSpace} (h : Room C sp (j + k) S) (hw : Went sp j C S S') : Room C sp k S' := by
 unfold Room at *
 have h1 := hw.asked
 have h2 := hw.le
 have h3 := hw.ok.few
 have : C * (sp.2.length - (begun sp S).length) = C * (sp.2.length - (begun sp S').length) + C * ((begun sp S').length - (begun sp S).length) := by
  rw [← Nat.mul_add]; congr 1; omega
 omega
theorem Room.less {C j k : Nat} {sp : TSpace} (h : Room C sp j S) (hk : k ≤ j) : Room C sp k S := by
 unfold Room at *; omega
def UndPost (K : Mkc) (J : AH → σ → List Nat → Prop) (pv : Stop → Value → AH → Prop) (A : AH) (F : List Nat) (g : Shop σ × Except Stop TRes) (r : ARes) (A' : AH) : Prop :=
 MkStep K J A F g.1 A' ∧ match g.2 with
  | .ok x => r = .ret (madeV x)
  | .error e => ∃ v, r = .pan v ∧ pv e v A'
def EndV (t : TypeId) (lo : Nat) (e : Stop) (v : Value) (A : AH) : Prop :=
 match e with
 | .ended r => ∃ s F, v = .iface t (.agg #[.int .i64 r.1, .string r.2.1, s.v]) ∧ SlR A s r.2.2 F ∧ ∀ b ∈ F, lo ≤ b ∧ b < A.size
 | .refused _ _ _ => False
def UndC (P : Program) (ro : Nat) (X : FuncId → List Value → AH → ARes → AH → Prop) (f : FuncId) (K : Mkc) (J : AH → σ → List Nat → Prop) (pv : Stop → Value → AH → Prop) (C d : Nat) (und : Under σ) : Prop :=
 ∀ (A : AH) (S : Shop σ) (os ms : Sl) (es3 es4 : SMap) (FJ : List Nat) (n : ByteArray), ro ≤ A.size → MkV K J A S os ms es3 es4 FJ → ShopOk K.sp S → NameOk n → Room C K.sp 1 S → S.stack.length + d = 60 →
   ACalls P ro X f [.pointer (some ⟨K.p, 0, none⟩), .string n] A (UndPost K J pv A (ftp K os ms FJ) (und S n))
def MkC (P : Program) (ro : Nat) (X : FuncId → List Value → AH → ARes → AH → Prop) (f : FuncId) (fs caps : Array Value) (K : Mkc) (J : AH → σ → List Nat → Prop) (pv : Stop → Value → AH → Prop) (C d : Nat) (g : Shop σ → ByteArray → TProgram → Shop σ × Except Stop TRes) : Prop :=
 ∀ (A : AH) (S : Shop σ) (os ms : Sl) (es3 es4 : SMap) (FJ : List Nat) (n : ByteArray) (p : TProgram) (cs : Sl) (F : List Nat), ro ≤ A.size → MkV K J A S os ms es3 es4 FJ → ShopOk K.sp S → NameOk n → ProgOk p → SlR K.B cs p F → Room C K.sp C S → S.stack.length + d = 60 →
   ACalls P ro X f (fs.toList ++ [.string n, .agg #[cs.v]] ++ caps.toList) A (UndPost K J pv A (ftp K os ms FJ) (g S n p))
theorem pushS_ok {sp : TSpace} {S : Shop σ} (hS : ShopOk sp S) {n : ByteArray} {p : TProgram} (hl : lookL n S.made = none) (ht : tgtR sp n = some p) (hi : idxL n S.stack = none) : ShopOk sp (pushS S n) ∧ (begun sp (pushS S n)).length = (begun sp S).length + 1 := by
 have hT : isT sp n = true := by unfold isT; rw [ht]; rfl
 have hnm : n ∉ (S.made.map (·.1)).filter (isT sp) := fun h => lookL_none hl (List.mem_filter.1 h).1
 have hns : n ∉ S.stack := idxL_none hi
 have hpb : begun sp (pushS S n) = begun sp S ++ [n] := by unfold begun pushS; simp
 refine ⟨⟨?_, fun x hx => ?_, hS.res⟩, by rw [hpb]; simp⟩
 ·rw [hpb, List.nodup_append]
  refine ⟨hS.nodup, by simp, fun a ha b hb => ?_⟩
  rw [List.mem_singleton.1 hb]
  rintro rfl
  unfold begun at ha
  rcases List.mem_append.1 ha with ha | ha
  ·exact hnm ha
  ·exact hns ha
 ·rcases List.mem_append.1 hx with hx | hx
  ·exact hS.tg x hx
  ·rw [List.mem_singleton.1 hx]; exact hT
theorem stack_unmade {sp : TSpace} {S : Shop σ} (hS : ShopOk sp S) {n : ByteArray} (hn : n ∈ S.stack) : lookL n S.made = none := by
 cases hl : lookL n S.made with
 | none => rfl
 | some r =>
   have hm := lookL_mem hl
   have h := (List.nodup_append.1 hS.nodup).2.2 n (List.mem_filter.2 ⟨List.mem_map.2 ⟨_, hm, rfl⟩, hS.tg n hn⟩) n hn
   exact (h rfl).elim
theorem Room.push {C : Nat} {sp : TSpace} {S S' : Shop σ} (h : Room C sp 0 S) (hS' : ShopOk sp S') (hb : (begun sp S').length = (begun sp S).length + 1) (ha : S'.asked = S.asked) : Room C sp C S' := by
 unfold Room at *
 have h1 := hS'.few
 have : C * (sp.2.length - (begun sp S).length) = C * (sp.2.length - (begun sp S').length) + C := by
  rw [← Nat.mul_succ]; congr 1; omega
 rw [ha]
 omega
theorem askS_room {C : Nat} {sp : TSpace} {S : Shop σ} (h : Room C sp 1 S) (n : ByteArray) : Room C sp 0 (askS S n) := by
 unfold Room at *
 rw [askS_begun]
 have := askS_len S n
 omega
theorem MkV.done {H H' : AH} (hJ : JOk K.top J) (h : MkV K J H S os ms es3 es4 FJ) (hX : ExtX F A H) (hF : ∀ b ∈ ftp K os ms FJ, b ∈ F ∨ A.size ≤ b) {L : List Nat} (hE : ExtX L H H') (hL : ∀ b ∈ L, K.top ≤ b ∧ A.size ≤ b ∧ b ∉ ftp K os ms FJ) : MkStep K J A F S H' :=
 ⟨os, ms, es3, es4, FJ, h.extx hJ hE fun b hb => ⟨(hL b hb).1, (hL b hb).2.2⟩, ⟨Nat.le_trans hX.size hE.size, fun b hb hm => (hE.get b (Nat.lt_of_lt_of_le hb hX.size) fun hl => by have := (hL b hl).2.1; omega).trans (hX.get b hb hm)⟩, hF⟩
theorem TgtM.get {B : AH} {sp : TSpace} {es : SMap} (h : TgtM B sp es) (n : ByteArray) : ∃ s : Sl, (match lk es n with | some v => Value.tuple #[v, .bool true] | none => .tuple #[.agg #[Sl.nil.v], .bool false]) = .tuple #[.agg #[s.v], .bool (tgtR sp n).isSome] ∧ ∀ q, tgtR sp n = some q → ∃ F, SlR B s q F := by
 cases ht : tgtR sp n with
 | none => exact ⟨Sl.nil, by rw [(h n).1 ht]; rfl, fun q hq => by cases hq⟩
 | some q =>
   obtain ⟨s, F, k1, k2⟩ := (h n).2 q ht
   exact ⟨s, by rw [k1]; rfl, fun q' hq => by cases hq; exact ⟨F, k2⟩⟩
theorem SrcM.get {sp : TSpace} {es : SMap} (h : SrcM sp es) (n : ByteArray) : (match lk es n with | some v => Value.tuple #[v, .bool true] | none => .tuple #[.string ⟨#[]⟩, .bool false]) = .tuple #[.string ((srcR sp n).getD ⟨#[]⟩), .bool (srcR sp n).isSome] := by
 rw [h n]
 cases srcR sp n <;> rfl
theorem ExtX.comp {H H' : AH} {G : List Nat} (hX : ExtX F A H) (hY : ExtX G H H') (h : ∀ b ∈ G, b ∈ F ∨ A.size ≤ b) : ExtX F A H' :=
 ⟨Nat.le_trans hX.size hY.size, fun b hb hm => (hY.get b (Nat.lt_of_lt_of_le hb hX.size) fun hg => by
  rcases h b hg with h | h
  ·exact hm h
  ·omega).trans (hX.get b hb hm)⟩
theorem idxL_drop {n : ByteArray} : ∀ {l : List ByteArray} {i : Nat}, idxL n (l.take i) = none → idxL n l = (idxL n (l.drop i)).map (· + i)
 | l, 0, _ => by simp
 | [], i + 1, _ => by simp [idxL]
 | x :: l, i + 1, h => by
   rw [List.take_succ_cons] at h
   unfold idxL at h
   split at h
   ·cases h
   ·rename_i hx
    have h' : idxL n (l.take i) = none := by
     cases hq : idxL n (l.take i) with
     | none => rfl
     | some j => rw [hq] at h; cases h
    rw [List.drop_succ_cons, idxL, if_neg hx, idxL_drop h', Option.map_map]
    congr 1
theorem idxL_here {n : ByteArray} {l : List ByteArray} {i : Nat} (hi : i < l.length) (h : idxL n (l.take i) = none) (hn : l[i] = n) : idxL n l = some i := by
 rw [idxL_drop h, List.drop_eq_getElem_cons hi, idxL, if_pos hn]
 simp
theorem idxL_on {n : ByteArray} {l : List ByteArray} {i : Nat} (hi : i < l.length) (h : idxL n (l.take i) = none) (hn : ¬ l[i] = n) : idxL n (l.take (i + 1)) = none := by
 rw [List.take_succ_eq_append_getElem hi, idxL_drop (i := i) (by rw [List.take_append_of_le_length (by rw [List.length_take]; omega), List.take_take, Nat.min_self]; exact h)]
 rw [List.drop_append_of_le_length (by rw [List.length_take]; omega), List.drop_take, Nat.sub_self, List.take_zero, List.nil_append, idxL, if_neg hn]
 rfl
def RunPost (K : Mkc) (J : AH → σ → List Nat → Prop) (pv : Stop → Value → AH → Prop) (A : AH) (F : List Nat) (g : Shop σ × Except Stop (TRes × List TSeen)) (r : ARes) (A' : AH) : Prop :=
 ∃ os ms es3 es4 FJ, MkV K J A' g.1 os ms es3 es4 FJ ∧ ExtX F A A' ∧ (∀ b ∈ ftp K os ms FJ, b ∈ F ∨ A.size ≤ b) ∧ match g.2 with
   | .ok x => ∃ sl Fl, r = .ret (.tuple #[madeV x.1, sl.v]) ∧ SlR A' sl x.2 Fl ∧ ∀ b ∈ Fl, A.size ≤ b ∧ b < A'.size ∧ b ∉ ftp K os ms FJ
   | .error e => ∃ v, r = .pan v ∧ pv e v A'
theorem Acc.nl_b {α : Type} [Dat α] {lo : Nat} {A : AH} {s : Sl} {l : List α} {G : List Nat} (h : Acc lo A s l G) (hn : s.nl = true) : s.b = 0 := by
 cases h with
 | nil => rfl
 | empty => cases hn
 | own => cases hn
end
end Go.AM
namespace Go.AM
open Go
set_option linter.all false
theorem XD.walk {P : Program} {ng ro : Nat} {X : FuncId → List Value → AH → ARes → AH → Prop} {f : FuncId} {args : List Value} {A : AH} {fn : Func} {pre : Code} {id t cap : Nat} {o1 o2 : Oper} {g : FuncId} {gfn : Func} {gid t1 t2 : Nat} {r1 r2 : Oper} {rid : Nat} {rops : Array Oper} {grest : Code}
 (M : Env → AH → Prop) (N : Env → Env → AH → Prop) (C : Env → Value → Env → AH → Prop) (Q : Value → AH → Prop)
 (hT : DefText P ng f fn pre id t cap o1 o2 g gfn gid t1 t2 r1 r2 (.seq (.region rid rops false) .ret) grest) (ha : args.length ≤ fn.ntmps)
 (hpre : Wp P ro X pre (Env.enter args) A (fun x e A1 => x = .normal ∧ M e A1))
 (hrest : ∀ e1 A1, M e1 A1 → Wp P ro X (.region rid rops false) (e1.put (some t) (.func (.func g) #[] #[e1 cap])) A1 (fun x e2 A2 => (x = .normal ∧ N e1 e2 A2) ∨ ∃ p, x = .pan p ∧ C e1 p e2 A2))
 (hdone : ∀ e1 e2 A2, N e1 e2 A2 → Wp P ro X grest (gEnv e1 cap t1 t2 .nilIface) A2 (fun y e3 A3 => (y = .ret ∨ y = .normal) ∧ (∃ gv, aResults P A3 e3 gfn = some gv) ∧ ∃ v, aResults P A3 e2 fn = some v ∧ Q v A3))
 (hcaught : ∀ e1 p e2 A2, C e1 p e2 A2 → Wp P ro X grest (gEnv e1 cap t1 t2 p) A2 (fun y e3 A3 => (y = .ret ∨ y = .normal) ∧ (∃ gv, aResults P A3 e3 gfn = some gv) ∧ ∃ v, aResults P A3 e2 fn = some v ∧ Q v A3)) :
 ∃ v A', XD P ng ro X f args A (.ret v) A' ∧ Q v A' := by
 obtain ⟨x, e1, A1, hb1, rfl, hM⟩ := hpre
 obtain ⟨x2, e2, A2, hb2, hq⟩ := hrest e1 A1 hM
 rcases hq with ⟨rfl, hN⟩ | ⟨p, rfl, hC⟩
 ·obtain ⟨y, e3, A3, hb3, hy, ⟨gv, hgv⟩, v, hv, hQ⟩ := hdone e1 e2 A2 hN
  exact ⟨v, A3, .done hT ha hb1 (.seq hb2 .ret) (.inl rfl) hb3 hy hgv hv, hQ⟩
 ·obtain ⟨y, e3, A3, hb3, hy, ⟨gv, hgv⟩, v, hv, hQ⟩ := hcaught e1 p e2 A2 hC
  refine ⟨v, A3, .caught hT ha hb1 ?_ hb3 hy hgv hv, hQ⟩
  cases hb2 with
  | region h => exact h
end Go.AM
