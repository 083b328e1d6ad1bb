/- Soundness of the abstract machine, ninth part: append. -/
import Derived.Test.YtcdnlghlbljopaaDoorAmS8
namespace Go.AM
open Go Go.RowKit
section
variable {P : Program} {ng ro base : Nat} {w0 : World} {m : Emb} {A : AH} {w : World}
/-- A block that dies. -/
theorem Step.kill (h : Sim ng ro base w0 m A w) (b : Nat) : Step ng ro base w0 m A w m (A.put b .dead) w := by
  have hl : ∀ x o, (A.put b .dead).get x = o → o ≠ .dead → A.get x = o := fun x o hx ho => by
    by_cases hxb : x = b
    · subst hxb; rw [AH.get_put] at hx; exact absurd hx.symm ho
    · rwa [AH.get_put_ne hxb] at hx
  have hlive : ∀ x, (A.put b .dead).get x ≠ .dead → A.get x ≠ .dead := fun x hx => by
    have := hl x _ rfl hx
    rw [this]; exact hx
  refine ⟨.refl m, ?_, Nat.le_refl _, Nat.le_refl _, fun _ _ _ => rfl, fun x hx => .inl ⟨x, hlive x hx, rfl⟩⟩
  exact ⟨h.glob, h.dlt, fun x c e hx => h.cells x c e (hl x _ hx (by simp)), fun x es hx => h.maps x es (hl x _ hx (by simp)), fun x hx => h.rw x (hlive x hx),
    fun x y hx hy => h.inj x y (hlive x hx) (hlive y hy), fun x hx => h.lo x (hlive x hx), h.bl, h.rl, h.old⟩
theorem source_ok (hS : Sim ng ro base w0 m A w) {sz n : Nat} {x x' : Value} {new : List Value} (hx : VRel m x x') (h : aSource A sz x = some (n, new)) :
    (∀ w, (Builtin.lenOf x').run P w = .ok n w) ∧ new.length = n * sz ∧ ∃ new', (∀ w1 : World, w1.heap = w.heap → (Builtin.firstCells sz n x').run P w1 = .ok new'.toArray w1) ∧ VRels m new new' ∧ ∀ v ∈ new, v.oneCell' = true := by
  unfold aSource at h
  split at h
  · cases h
    cases hx
    exact ⟨fun _ => rfl, by simp, [], fun _ _ => rfl, .nil, by simp⟩
  · rename_i b k c
    split at h
    · rename_i hk
      subst hk
      cases h
      cases hx <;> exact ⟨fun _ => rfl, by simp, [], fun _ _ => by simp [Builtin.firstCells, loadCells, loadCellsFrom], .nil, by simp⟩
    · rename_i hk
      obtain ⟨cs, hcs, he⟩ := Option.map_eq_some_iff.1 h
      cases he
      cases hx with
      | slEmpty p p' c hc hd0 => exact absurd rfl hk
      | slExact b o n c hd hc hn =>
        obtain ⟨g0, cs', g1, g2, g3⟩ := row_ok (P := P) hS hcs
        exact ⟨fun _ => rfl, g0, cs', g1, g2, g3⟩
      | slBig b o n c hd hn hkk =>
        obtain ⟨g0, cs', g1, g2, g3⟩ := row_ok (P := P) hS hcs
        exact ⟨fun _ => rfl, g0, cs', g1, g2, g3⟩
  · rename_i s
    split at h
    · rename_i hsz
      subst hsz
      cases h
      obtain rfl := hx.str_l
      refine ⟨fun _ => rfl, by rw [bytesOf_length]; omega, bytesOf s, fun w1 _ => ?_, VRels_bytes m s, bytesOf_oneCell s⟩
      have he : s.extract 0 s.size = s := by
        apply ByteArray.ext
        rw [ByteArray.data_extract]
        exact Array.extract_size
      simp only [Builtin.firstCells, he, Sem.run_pure]
      congr 1
      apply Array.ext'
      simp [bytesOf]
    · cases h
  · cases h
theorem cap_bound {need c : Nat} (h : c < need) : Builtin.nextslicecap need c ≤ 2 * need + 192 := by
  unfold Builtin.nextslicecap
  split
  · omega
  · split
    · omega
    · have key : ∀ (r c : Nat), c < need + need / 4 + 193 → Builtin.growBy need r c ≤ 2 * need + 192 := by
        intro r
        induction r with
        | zero => intro c h; unfold Builtin.growBy; omega
        | succ r ih =>
          intro c h
          unfold Builtin.growBy
          split
          · omega
          · exact ih _ (by omega)
      exact key 4 c (by omega)
/-- The appended row is made anew. -/
theorem grow_ok (hS : Sim ng ro base w0 m A w) {t t2 ty el : TypeId} {i : TypeInfo} {z : List Value} {len n cap : Nat} {bs : Option Addr} {x' : Value} {old old' new new' : List Value} {d2 : TypeDesc}
    (hu : P.underlying t = some (.slice el)) (hi : P.info? el = some i) (hb : i.bytes ≤ 4096) (hz : (tZero P el).bind acells = some z) (hzl : z.length = i.size)
    (hu2 : P.underlying t2 = some d2) (hd2 : ∀ k, d2 ≠ .int k)
    (hlim : len + n < LIM) (hcap : ¬ len + n ≤ cap) (hlen : ∀ w, (Builtin.lenOf x').run P w = .ok n w)
    (hold : ∀ w1 : World, w1.heap = w.heap → (Builtin.firstCells i.size len (.slice bs len cap)).run P w1 = .ok old'.toArray w1) (hnew : ∀ w1 : World, w1.heap = w.heap → (Builtin.firstCells i.size n x').run P w1 = .ok new'.toArray w1)
    (ro1 : VRels m old old') (ro2 : ∀ v ∈ old, v.oneCell' = true) (rn1 : VRels m new new') (rn2 : ∀ v ∈ new, v.oneCell' = true) (lo : old.length = len * i.size) (ln : new.length = n * i.size) :
    ∃ m' w' r, (Builtin.append_ #[t, t2] ty #[.slice bs len cap, x']).run P w = .ok r w' ∧ Step ng ro base w0 m A w m' (A.new (.cells (old ++ new) i.size)) w' ∧ VRel m' (.slice (some ⟨A.size, 0, none⟩) (len + n) BIG) r ∧ DomOk m m' A.size := by
  cases hzz : tZero P el with
  | none => rw [hzz] at hz; cases hz
  | some zv =>
  rw [hzz] at hz
  obtain ⟨h1, h2⟩ := run_zero hzz w
  obtain ⟨h3, h4⟩ := ground_cells h2 hz
  have hzv : zv.cells = z.toArray := by rw [← h3]
  let q := Question.appendCap (len + n) cap el
  let nc := q.cut (w.tape w.drawn q)
  have hnc : len + n ≤ nc := Nat.le_add_right _ _
  let rest := Builtin.zeroCells z.toArray (nc - (len + n))
  have hrest : rest.size = (nc - (len + n)) * i.size := by simp [rest, Builtin.zeroCells, hzl]
  let C : Array Value := old'.toArray ++ new'.toArray ++ rest
  have lo' : old'.length = len * i.size := by rw [← ro1.length]; exact lo
  have ln' : new'.length = n * i.size := by rw [← rn1.length]; exact ln
  have hC : C.size = nc * i.size := by
    simp only [C, Array.size_append, List.size_toArray, lo', ln', hrest]
    rw [← Nat.add_mul, ← Nat.add_mul]
    congr 1; omega
  let w' : World := { w with heap := w.heap.push (.cells C el), drawn := w.drawn + 1 }
  have hstep := Step.new hS.fresh hS.rl (e := i.size) (c := old ++ new) (c' := C) (el := el) (fz := (0, 0)) hS (w' := w') rfl rfl rfl rfl (by
      rw [hC, List.length_append, lo, ln, ← Nat.add_mul]; exact Nat.mul_le_mul_right _ hnc) (by
      intro j v hv
      obtain ⟨v', hv', hr⟩ := (ro1.append rn1).get hv
      refine ⟨?_, v', ?_, hr⟩
      · rcases List.mem_append.1 (List.mem_of_getElem? hv) with h | h
        · exact ro2 v h
        · exact rn2 v h
      · rw [Nat.zero_add]
        have hj : j < (old'.toArray ++ new'.toArray).size := by
          rcases Nat.lt_or_ge j (old' ++ new').length with h | h
          · simpa using h
          · rw [List.getElem?_eq_none h] at hv'; cases hv'
        rw [Array.getElem?_append_left hj]
        simpa using hv') freeRow_zero
  rw [AH.newAt_self] at hstep
  refine ⟨_, w', .slice (some ⟨w.heap.size, 0, none⟩) (len + n) nc, ?_, hstep, ?_, .add⟩
  · have hgrow := cap_bound (need := len + n) (c := cap) (by omega)
    have hroom : ¬ (Builtin.nextslicecap (len + n) cap * i.bytes > 2 ^ 48) := by
      have : Builtin.nextslicecap (len + n) cap * i.bytes ≤ (2 * (len + n) + 192) * 4096 := Nat.mul_le_mul hgrow hb
      unfold LIM at hlim
      omega
    have hmax : ¬ (((len + n : Nat) : Int) > IntKind.i64.max ∧ i.bytes = 0) := by
      rintro ⟨h, _⟩
      simp only [IntKind.max, IntKind.bits, IntKind.signed, if_true] at h
      unfold LIM at hlim
      omega
    have hw1 : ({ w with drawn := w.drawn + 1 } : World).heap = w.heap := rfl
    simp only [Builtin.append_, List.getElem?_toArray, List.getElem?_cons_zero, List.getElem?_cons_succ, Sem.run_bind, run_und hu, Result.andThen_ok, run_sizeI hi, run_und hu2, hlen, run_infoI hi, Sem.run_pure, if_neg hcap,
      Bool.false_eq_true, if_false, Sem.run_ite, false_or, hroom]
    have hz1 := (run_zero hzz { w with drawn := w.drawn + 1 }).1
    rw [if_neg hmax]
    simp only [run_choose, show (Question.appendCap (len + n) cap el).forced = false from rfl, Bool.false_eq_true, if_false, Result.andThen_ok, run_askRoom, hold { w with drawn := w.drawn + 1 } rfl, Bool.not_false, if_true,
      hnew { w with drawn := w.drawn + 1 } rfl, hz1, newRow, run_newObj, Sem.run_bind, Sem.run_pure, hzv]
    rfl
  · have hb2 := VRel.slBig (m := m.add A.size w.heap.size 0 C.size i.size) A.size 0 (len + n) nc Emb.add_dom hnc (by simp [hC])
    simpa using hb2
theorem firstCells_zero {sz : Nat} {a : Option Addr} {c : Nat} (w1 : World) : (Builtin.firstCells sz 0 (.slice a 0 c)).run P w1 = .ok ([] : List Value).toArray w1 := by
  cases a <;> simp [Builtin.firstCells, loadCells, loadCellsFrom]
/-- Within the capacity. -/
theorem fits_run {t t2 ty el : TypeId} {i : TypeInfo} {len n cap : Nat} {bs : Option Addr} {x' : Value} {new' : List Value} {d2 : TypeDesc} {w' : World}
    (hu : P.underlying t = some (.slice el)) (hi : P.info? el = some i) (hu2 : P.underlying t2 = some d2) (hd2 : ∀ k, d2 ≠ .int k) (hcap : len + n ≤ cap) (hlen : ∀ w, (Builtin.lenOf x').run P w = .ok n w)
    (hnew : (Builtin.firstCells i.size n x').run P w = .ok new'.toArray w) (hst : ∀ a, bs = some a → (storeCells (a.add (len * i.size)) new').run P w = .ok () w') (hn : bs = none → w' = w) :
    (Builtin.append_ #[t, t2] ty #[.slice bs len cap, x']).run P w = .ok (.slice bs (len + n) cap) w' := by
  have hzeros : (match d2 with | .int _ => true | _ => false) = false := by cases d2 <;> first | rfl | exact absurd rfl (hd2 _)
  simp only [Builtin.append_, List.getElem?_toArray, List.getElem?_cons_zero, List.getElem?_cons_succ, Sem.run_bind, run_und hu, Result.andThen_ok, run_sizeI hi, run_und hu2, hlen, Sem.run_pure, if_pos hcap,
    Bool.false_eq_true, if_false, Sem.run_ite]
  simp only [Bool.not_false, if_true, hnew, Result.andThen_ok]
  cases bs with
  | none => simp [hn rfl]
  | some a => simp [hst a rfl]
theorem append_ok (hS : Sim ng ro base w0 m A w) {t t2 ty : TypeId} {s s' x x' v : Value} {A1 : AH} (hk : tKind P t2 = some .slice ∨ tKind P t2 = some .str) (hs : VRel m s s') (hx : VRel m x x')
    (h : aAppend P ro A t s x = some (v, A1)) : ∃ m' w' r, (Builtin.append_ #[t, t2] ty #[s', x']).run P w = .ok r w' ∧ Step ng ro base w0 m A w m' A1 w' ∧ VRel m' v r ∧ DomOk m m' A.size := by
  obtain ⟨d2, hu2, hd2⟩ : ∃ d2, P.underlying t2 = some d2 ∧ ∀ k, d2 ≠ .int k := by
    rcases hk with hk | hk
    · obtain ⟨e, he⟩ := tKind_slice hk; exact ⟨_, he, by simp⟩
    · exact ⟨_, tKind_str hk, by simp⟩
  unfold aAppend at h
  split at h
  · rename_i sz bs len cap hsz
    obtain ⟨el, i, z, _, hu, hi, rfl, hb, hz, hzl⟩ := tElemSize_z hsz
    split at h
    · rename_i n new hsrc
      obtain ⟨hlen, ln, new', hnew, rn1, rn2⟩ := source_ok (P := P) hS hx hsrc
      split at h
      · rename_i hlim
        split at h
        · split at h
          · cases h
          · rename_i hlc
            obtain ⟨rfl, rfl⟩ : len = 0 ∧ cap = 0 := by omega
            cases hs
            split at h
            · rename_i hn
              subst hn
              cases h
              have hnil : new' = [] := by
                have := rn1.length
                rw [ln] at this
                exact List.eq_nil_of_length_eq_zero (by omega)
              subst hnil
              have := fits_run (P := P) (w := w) (w' := w) (t2 := t2) (ty := ty) (len := 0) (cap := 0) (bs := none) hu hi hu2 hd2 (Nat.le_refl _) hlen (hnew w rfl) (fun a ha => by cases ha) (fun _ => rfl)
              exact ⟨m, w, _, this, .refl hS, .slNil, .refl⟩
            · rename_i hn
              cases h
              obtain ⟨m', w', r, g1, g2, g3, g0⟩ := grow_ok (P := P) (ty := ty) (len := 0) (cap := 0) (bs := none) (old := []) (old' := []) hS hu hi hb hz hzl hu2 hd2 hlim (by omega) hlen (fun w1 _ => firstCells_zero w1) hnew .nil
                (by simp) rn1 rn2 (by simp) ln
              exact ⟨m', w', r, g1, by simpa using g2, by simpa using g3, g0⟩
        · rename_i a
          split at h
          · rename_i hcap
            split at h
            · rename_i hn
              obtain ⟨rfl, hle⟩ := hn
              cases h
              have hnil : new' = [] := by
                have := rn1.length
                rw [ln] at this
                exact List.eq_nil_of_length_eq_zero (by omega)
              subst hnil
              have key : ∀ (p' : Addr), (Builtin.append_ #[t, t2] ty #[.slice (some p') len cap, x']).run P w = .ok (.slice (some p') len cap) w := fun p' =>
                fits_run (P := P) (w := w) (w' := w) (t2 := t2) (ty := ty) (bs := some p') hu hi hu2 hd2 hle hlen (hnew w rfl) (fun a ha => rfl) (fun h => by cases h)
              cases hs with
              | slEmpty p p' c hc hd0 =>
                rcases hc with rfl | rfl
                · exact ⟨m, w, _, key p', .refl hS, .slEmpty _ _ _ (.inl rfl) (fun h => (zeroNe h).elim), .refl⟩
                · exact absurd hcap (Nat.lt_irrefl _)
              | slExact b o n c hd hc hn => exact ⟨m, w, _, key _, .refl hS, .slExact _ _ _ _ hd hc hn, .refl⟩
              | slBig b o n c hd hn hkk => exact absurd hcap (Nat.lt_irrefl _)
            · rename_i hn
              split at h
              · rename_i hfit
                split at h
                · rename_i c e hsp hg
                  split at h
                  · rename_i hle
                    cases h
                    obtain ⟨hro, hl⟩ := hle
                    cases hs with
                    | slEmpty p p' c hc hd0 =>
                      rcases hc with rfl | rfl
                      · exact absurd ⟨by omega, Nat.zero_le _⟩ hn
                      · exact absurd hcap (Nat.lt_irrefl _)
                    | slExact b o n' c' hd hc hnc =>
                      obtain ⟨w', h1, h2⟩ := write_ok (P := P) (o := o + len * i.size) (vs := new) (vs' := new') hS hg hro (by rw [ln]; exact hl) rn1 rn2
                      refine ⟨m, w', _, fits_run (P := P) (w := w) (w' := w') (t2 := t2) (ty := ty) (bs := some ⟨m.r b, m.s b + o, none⟩) hu hi hu2 hd2 hfit hlen (hnew w rfl) (fun a ha => ?_) (fun h => by cases h), h2, .slExact _ _ _ _ hd hc hfit, .refl⟩
                      cases ha
                      rw [ptr_add, Nat.add_assoc]
                      exact h1
                    | slBig b o n c hd hn hkk => exact absurd hcap (Nat.lt_irrefl _)
                  · cases h
                · cases h
              · rename_i hgt
                split at h
                · rename_i hl0
                  subst hl0
                  cases h
                  have hcap' : ¬ (0 + n ≤ cap) := hgt
                  have key : ∀ (p' : Addr), ∃ m' w' r, (Builtin.append_ #[t, t2] ty #[.slice (some p') 0 cap, x']).run P w = .ok r w' ∧ Step ng ro base w0 m A w m' (A.new (.cells new i.size)) w' ∧
                      VRel m' (.slice (some ⟨A.size, 0, none⟩) n BIG) r ∧ DomOk m m' A.size := by
                    intro p'
                    obtain ⟨m', w', r, g1, g2, g3, g0⟩ := grow_ok (P := P) (ty := ty) (len := 0) (cap := cap) (bs := some p') (old := []) (old' := []) hS hu hi hb hz hzl hu2 hd2 hlim hcap' hlen (fun w1 _ => firstCells_zero w1) hnew .nil
                      (by simp) rn1 rn2 (by simp) ln
                    exact ⟨m', w', r, g1, by simpa using g2, by simpa using g3, g0⟩
                  cases hs with
                  | slEmpty p p' c hc hd0 =>
                    rcases hc with rfl | rfl
                    · exact key p'
                    · exact absurd hcap (Nat.lt_irrefl _)
                  | slExact b o n c hd hc hn => exact key _
                  | slBig b o n c hd hn hkk => exact absurd hcap (Nat.lt_irrefl _)
                · rename_i hl0
                  split at h
                  · rename_i old hold
                    cases h
                    cases hs with
                    | slEmpty p p' c hc hd0 => exact absurd rfl hl0
                    | slExact b o n c hd hc hn =>
                      obtain ⟨lo, old', g1, g2, g3⟩ := row_ok (P := P) hS hold
                      exact grow_ok (P := P) (ty := ty) (bs := some _) hS hu hi hb hz hzl hu2 hd2 hlim hgt hlen g1 hnew g2 g3 rn1 rn2 lo ln
                    | slBig b o n c hd hn hkk => exact absurd hcap (Nat.lt_irrefl _)
                  · cases h
          · rename_i hcap
            split at h
            · rename_i hbig
              obtain ⟨rfl, hro⟩ := hbig
              split at h
              · rename_i old c e hold hg
                split at h
                · rename_i he
                  subst he
                  cases h
                  have hlive : A.get a.block ≠ .dead := by rw [hg]; simp
                  obtain ⟨hd, c', el', fz, k1, k2, k3, k4, k5, k6⟩ := hS.cells _ _ _ hg
                  cases hs with
                  | slEmpty p p' cc hc hd0 =>
                    have hlo : old = [] := by
                      unfold aRow at hold
                      split at hold
                      · split at hold
                        · cases hold; simp
                        · cases hold
                      · cases hold
                    subst hlo
                    rcases Nat.eq_zero_or_pos n with hn0 | hn0
                    · subst hn0
                      have hnil : new' = [] := by
                        have := rn1.length
                        rw [ln] at this
                        exact List.eq_nil_of_length_eq_zero (by omega)
                      subst hnil
                      cases rn1
                      have hrun := fits_run (P := P) (w := w) (w' := w) (t2 := t2) (ty := ty) (len := 0) (cap := 0) (bs := some p') hu hi hu2 hd2 (Nat.le_refl _) hlen (hnew w rfl) (fun a ha => rfl) (fun h => by cases h)
                      have hst := Step.take (c := []) (e := i.size) (s := 0) hS hlive hro (w' := w) ⟨rfl, rfl, rfl, rfl, k1, fun _ _ => rfl⟩ (by simp) (fun j v hv => by simp at hv) (k6 hro)
                      exact ⟨_, w, _, hrun, by simpa using hst, .slEmpty _ _ _ (.inr rfl) (fun _ => Emb.add_dom), .add⟩
                    · have hkill := Step.kill hS a.block
                      obtain ⟨m', w', r, g1, g2, g3, g0⟩ := grow_ok (P := P) (ty := ty) (len := 0) (cap := 0) (bs := some p') (old := []) (old' := []) hkill.sim hu hi hb hz hzl hu2 hd2 hlim (by omega) hlen
                        (fun w1 _ => firstCells_zero w1) hnew .nil (by simp) rn1 rn2 (by simp) ln
                      exact ⟨m', w', r, g1, hkill.trans (by simpa using g2), g3, g0⟩
                  | slExact b o nn cc hd hc hn => exact absurd hc (Nat.lt_irrefl _)
                  | slBig b o nn cap' hd hn hkk =>
                    obtain ⟨lo, old', g1, g2, g3⟩ := row_ok (P := P) hS hold
                    simp only at k1 k2 k3 k4 k5 k6 hg hro hlive
                    by_cases hfit : len + n ≤ cap'
                    · have hlen' := rn1.length
                      have hbound : m.s b + (o + len * i.size) + new'.length ≤ c'.size := by
                        rw [← hlen', ln, ← k3, ← hkk, k2]
                        have h1 : len * i.size + n * i.size ≤ cap' * i.size := by rw [← Nat.add_mul]; exact Nat.mul_le_mul_right _ hfit
                        omega
                      have h1' : ∀ u ∈ new', u.oneCell' = true := by
                        intro u hu'
                        obtain ⟨j, hj⟩ := List.getElem?_of_mem hu'
                        have hjl : j < new.length := by
                          rw [hlen']
                          rcases Nat.lt_or_ge j new'.length with h | h
                          · exact h
                          · rw [List.getElem?_eq_none h] at hj; cases hj
                        obtain ⟨u2, hu2', hr⟩ := rn1.get (i := j) (v := new[j]) (by simp [hjl])
                        rw [hj] at hu2'
                        cases hu2'
                        rw [hr.oneCell]
                        exact rn2 _ (List.getElem_mem hjl)
                      have hrun := run_storeCells_cells (P := P) (m.r b) (m.s b + o + len * i.size) new' 0 w (fun j hj => by
                          rw [cell_row k1]; simp; omega) (fun j hj => by
                          rw [frozen_row k1]
                          have := k6 hro (m.s b + o + len * i.size + 0 + j) (by omega)
                          simpa using this) h1'
                      have hone := heap_setCells new' w (m.r b) (m.s b + o + len * i.size) c' el' fz k1
                      have happ := fits_run (P := P) (w := w) (t2 := t2) (ty := ty) (bs := some ⟨m.r b, m.s b + o, none⟩) hu hi hu2 hd2 hfit hlen (hnew w rfl) (fun a ha => by
                        cases ha; rw [ptr_add]; exact hrun) (fun h => by cases h)
                      have hst := Step.take (c := old ++ new) (e := i.size) (s := m.s b + o) hS hlive hro (by simpa using hone) (by
                          rw [setArr_size, List.length_append, hlen', lo]; omega) (by
                          intro j u hj
                          by_cases hjo : j < old.length
                          · rw [List.getElem?_append_left hjo] at hj
                            refine ⟨g3 u (List.mem_of_getElem? hj), ?_⟩
                            have hjc : c[o + j]? = some u := by
                              unfold aRow at hold
                              simp only [hg] at hold
                              split at hold
                              · cases hold
                                rw [List.getElem?_take] at hj
                                split at hj
                                · rwa [List.getElem?_drop] at hj
                                · cases hj
                              · cases hold
                            obtain ⟨_, u', e1, e2⟩ := k5 _ _ hjc
                            refine ⟨u', ?_, e2⟩
                            rw [setArr_get _ _ _ _ (by omega), if_neg (by omega), Nat.add_assoc]
                            exact e1
                          · rw [List.getElem?_append_right (by omega)] at hj
                            refine ⟨rn2 u (List.mem_of_getElem? hj), ?_⟩
                            obtain ⟨u', e1, e2⟩ := rn1.get hj
                            have hjn : j - old.length < new'.length := by
                              rcases Nat.lt_or_ge (j - old.length) new'.length with h | h
                              · exact h
                              · rw [List.getElem?_eq_none h] at e1; cases e1
                            refine ⟨u', ?_, e2⟩
                            rw [setArr_get _ _ _ _ (by omega), if_pos (by omega), ← e1]
                            congr 1; omega) (by rw [setArr_size]; exact k6 hro)
                      refine ⟨_, _, _, happ, by simpa using hst, ?_, .add⟩
                      have := VRel.slBig (m := m.add A.size (m.r b) (m.s b + o) (setArr c' (m.s b + o + len * i.size) new').size i.size) A.size 0 (len + n) cap' Emb.add_dom hfit (by
                        simp only [Emb.add_e, Emb.add_s, Emb.add_k, setArr_size]; rw [← k3, ← hkk, k2]; omega)
                      simpa using this
                    · have hkill := Step.kill hS b
                      obtain ⟨m', w', r, g4, g5, g6, g0⟩ := grow_ok (P := P) (ty := ty) (bs := some ⟨m.r b, m.s b + o, none⟩) hkill.sim hu hi hb hz hzl hu2 hd2 hlim hfit hlen g1 hnew g2 g3 rn1 rn2 lo ln
                      exact ⟨m', w', r, g4, hkill.trans g5, g6, g0⟩
                · cases h
              · cases h
            · cases h
      · cases h
    · cases h
  · cases h
end
end Go.AM
