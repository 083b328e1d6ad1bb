/- Entry: a law's arguments, as the statement hands them, laid as abstract blocks that nobody may write. -/
import Derived.Test.YtmelgjblkmbhjaaGreatDoorAmH
import Derived.Test.YtmelgjblkmbhjaaGreatDoorAmSA
import Derived.ChangeArms
import Derived.SizedLaws
import Derived.DataReads
namespace Go.AM
open Go Go.RowKit
set_option linter.unusedVariables false
/-- An abstract heap all of whose blocks may only be read. -/
def SimR (ng : Nat) (W : World) (m : Emb) (A : AH) : Prop := Sim ng A.size W.heap.size W m A W
section
variable {ng : Nat} {W : World} {m : Emb} {A : AH}
theorem Sim.start (hn : ng ≤ W.heap.size) : SimR ng W ⟨fun b => b < ng, fun b => b, fun _ => 0, fun b => match W.heap[b]? with | some (.cells c _ _) => c.size | _ => 0, fun _ => 1⟩ ⟨fun _ => .dead, ng⟩ :=
  ⟨fun g hg => ⟨hg, rfl, rfl⟩, fun b hb => hb, fun b c e h => (by cases h), fun b es h => (by cases h), fun b h => absurd rfl h, fun b b' h => absurd rfl h, fun b h => absurd rfl h, Nat.le_refl _, Nat.le_refl _, Below.refl _ _⟩
/-- One block more. -/
theorem SimR.add (h : SimR ng W m A) {r s e : Nat} {c : List Value} {c' : Array Value} {el : TypeId} {fz : Nat × Nat} (hr : W.heap[r]? = some (.cells c' el fz)) (hl : s + c.length ≤ c'.size) (hc : CRel m s c c') :
    SimR ng W (m.add A.size r s c'.size e) (A.new (.cells c e)) ∧ m.Le (m.add A.size r s c'.size e) := by
  have hle : m.Le (m.add A.size r s c'.size e) := Emb.add_le (fun hd => Nat.lt_irrefl _ (h.dlt _ hd))
  refine ⟨⟨fun g hg => ?_, ?_, ?_, ?_, fun b hb hlo => ?_, fun b b' hb _ hlo => ?_, fun b hb _ => ?_, h.bl, Nat.le_refl _, h.old⟩, hle⟩
  · obtain ⟨h1, h2, h3⟩ := h.glob g hg
    exact ⟨hle.dom g h1, (hle.r g h1).trans h2, (hle.s g h1).trans h3⟩
  · rintro b (hb | rfl)
    · have := h.dlt b hb; show b < A.size + 1; omega
    · show A.size < A.size + 1; omega
  · intro b c0 e0 hb
    by_cases hbn : b = A.size
    · subst hbn
      rw [AH.get_new_self] at hb
      cases hb
      exact ⟨.inr rfl, c', el, fz, by simpa using hr, by simp, by simp, by simpa using hl, by simpa using hc.mono hle, fun hro => absurd hro (by show ¬ A.size + 1 ≤ A.size; omega)⟩
    · rw [AH.get_new_other hbn] at hb
      obtain ⟨g1, c1, el1, fz1, g2, g3, g4, g5, g6, g7⟩ := h.cells b c0 e0 hb
      exact ⟨hle.dom b g1, c1, el1, fz1, by rw [hle.r b g1]; exact g2, by rw [hle.e b g1]; exact g3, by rw [hle.k b g1]; exact g4, by rw [hle.s b g1]; exact g5, by rw [hle.s b g1]; exact g6.mono hle, fun hro => by
        have := h.dlt b g1; have hro' : A.size + 1 ≤ b := hro; omega⟩
  · intro b es hb
    by_cases hbn : b = A.size
    · subst hbn; rw [AH.get_new_self] at hb; cases hb
    · rw [AH.get_new_other hbn] at hb
      obtain ⟨g1, es', cl, g2, g3⟩ := h.maps b es hb
      exact ⟨hle.dom b g1, es', cl, by rw [hle.r b g1]; exact g2, g3.mono hle⟩
  · exfalso
    by_cases hbn : b = A.size
    · subst hbn; exact absurd hlo (by show ¬ A.size + 1 ≤ A.size; omega)
    · rw [AH.get_new_other hbn] at hb
      have := Sim.live_lt h hb; have hlo' : A.size + 1 ≤ b := hlo; omega
  · exfalso
    by_cases hbn : b = A.size
    · subst hbn; exact absurd hlo (by show ¬ A.size + 1 ≤ A.size; omega)
    · rw [AH.get_new_other hbn] at hb
      have := Sim.live_lt h hb; have hlo' : A.size + 1 ≤ b := hlo; omega
  · by_cases hbn : b = A.size
    · subst hbn
      have : r < W.heap.size := by
        rcases Nat.lt_or_ge r W.heap.size with h' | h'
        · exact h'
        · rw [Array.getElem?_eq_none h'] at hr; cases hr
      simpa using this
    · rw [AH.get_new_other hbn] at hb
      rw [hle.r b (h.dom_of hb)]
      exact h.lo b hb (Sim.live_lt h hb)
end
/-- How data of a type is laid. -/
structure LayT (P : Program) (t : TypeId) (α : Type) [Dat α] (isd : ∀ H : Type, DataW H → α → Prop) (sz : α → Prop) : Prop where
  cells : P.cellsOf t = Dat.w α
  lay : ∀ {H : Type} {enc : TypeId × Value → H} {held : Bool} {ng : Nat} {W : World} {m : Emb} {A : AH} (fuel : Nat) (cs : List Value) (x : DataW H × List MemPlace),
    DataW.trod enc P W 0 (fun _ => true) held fuel t cs = some x → (∀ n ∈ x.1.weights P t, n ≤ reachBytes) → SimR ng W m A →
    ∃ m' A' v cs' F, SimR ng W m' A' ∧ m.Le m' ∧ Ext A A' ∧ Dat.rep A' v cs' F ∧ VRels m' cs' cs ∧ (∀ u ∈ cs', u.oneCell' = true) ∧ isd H x.1 v ∧ sz v
theorem i64_wf {n : Int} (h : (Lit.int .i64 n).wf = true) : -9223372036854775808 ≤ n ∧ n ≤ 9223372036854775807 := by
  have h1 : IntKind.i64.min = -9223372036854775808 := by decide
  have h2 : IntKind.i64.max = 9223372036854775807 := by decide
  simpa [Lit.wf, h1, h2] using h
theorem u8_wf {n : Int} (h : (Lit.int .u8 n).wf = true) : 0 ≤ n ∧ n ≤ 255 := by
  have h1 : IntKind.u8.min = 0 := by decide
  have h2 : IntKind.u8.max = 255 := by decide
  simpa [Lit.wf, h1, h2] using h
section
variable {P : Program} {t : TypeId}
theorem LayT.int (hu : P.underlying t = some (.int .i64)) (hc : P.cellsOf t = 1) : LayT P t Int (fun _ d v => d = .lit (.int .i64 v)) (fun v => -9223372036854775808 ≤ v ∧ v ≤ 9223372036854775807) := by
  refine ⟨hc, fun {H enc held ng W m A} fuel cs x h _ hS => ?_⟩
  obtain ⟨n, rfl, rfl, hw⟩ := DataW.trod_int hu h
  exact ⟨m, A, n, _, [], hS, .refl m, Ext.refl A, ⟨rfl, rfl⟩, .cons _ _ _ _ (.int _ _) .nil, by simp [Value.oneCell'], rfl, i64_wf hw⟩
theorem LayT.bool (hu : P.underlying t = some .bool) (hc : P.cellsOf t = 1) : LayT P t Bool (fun _ d v => d = .lit (.bool v)) (fun _ => True) := by
  refine ⟨hc, fun {H enc held ng W m A} fuel cs x h _ hS => ?_⟩
  obtain ⟨n, rfl, rfl⟩ := DataW.trod_bool hu h
  exact ⟨m, A, n, _, [], hS, .refl m, Ext.refl A, ⟨rfl, rfl⟩, .cons _ _ _ _ (.bool _) .nil, by simp [Value.oneCell'], rfl, trivial⟩
theorem LayT.str (hu : P.underlying t = some .string) (hc : P.cellsOf t = 1) : LayT P t ByteArray (fun _ d v => d = .lit (.string v.data.toList)) (fun v => v.size ≤ reachBytes) := by
  refine ⟨hc, fun {H enc held ng W m A} fuel cs x h hw hS => ?_⟩
  obtain ⟨s, rfl, rfl, _⟩ := DataW.trod_string hu h
  have hsz : s.size ≤ reachBytes := by simpa [DataW.weights] using hw
  exact ⟨m, A, s, _, [], hS, .refl m, Ext.refl A, ⟨rfl, rfl, by have := reachBytes_lt; unfold BIG; omega⟩, .cons _ _ _ _ (.string _) .nil, by simp [Value.oneCell'], rfl, hsz⟩
theorem LayT.u8 (hu : P.underlying t = some (.int .u8)) (hc : P.cellsOf t = 1) : LayT P t UInt8 (fun _ d v => d = .lit (.int .u8 v.toNat)) (fun _ => True) := by
  refine ⟨hc, fun {H enc held ng W m A} fuel cs x h _ hS => ?_⟩
  obtain ⟨n, rfl, rfl, hw⟩ := DataW.trod_int hu h
  have hb : 0 ≤ n ∧ n ≤ 255 := u8_wf hw
  have hn : ((UInt8.ofNat n.toNat).toNat : Int) = n := by
    have : (UInt8.ofNat n.toNat).toNat = n.toNat % 256 := by simp
    rw [this]; omega
  exact ⟨m, A, UInt8.ofNat n.toNat, [.int .u8 n], [], hS, .refl m, Ext.refl A, ⟨by rw [hn], rfl⟩, .cons _ _ _ _ (.int _ _) .nil, by simp [Value.oneCell'], by rw [hn], trivial⟩
/-! ### Slices -/
def AllD {H α : Type} (isd : DataW H → α → Prop) : List (DataW H) → List α → Prop
  | [], [] => True
  | d :: ds, v :: vs => isd d v ∧ AllD isd ds vs
  | _, _ => False
theorem AllD.take {H α : Type} {isd : DataW H → α → Prop} : ∀ {ds es : List (DataW H)} {vs : List α}, AllD isd (ds ++ es) vs → AllD isd ds (vs.take ds.length)
  | [], _, _, _ => by simp [AllD]
  | d :: ds, es, v :: vs, h => ⟨h.1, AllD.take h.2⟩
theorem addr_add (a : Addr) (x y : Nat) : (a.add x).add y = a.add (x + y) := by
  unfold Addr.add
  by_cases hx : x = 0
  · subst hx; simp
  · by_cases hy : y = 0
    · subst hy; simp [hx]
    · simp [hx, hy, Nat.add_assoc]
theorem Reps.take {α : Type} [Dat α] {A : AH} {l : List α} {cs : List Value} {F : List Nat} (h : Reps A l cs F) : ∀ k, k ≤ l.length → ∃ F', Reps A (l.take k) (cs.take (k * Dat.w α)) F' ∧ ∀ b, b ∈ F' → b ∈ F := by
  induction h with
  | nil => intro k hk; simp at hk; subst hk; exact ⟨[], by simpa using Reps.nil, by simp⟩
  | cons h k ih =>
    rename_i x l c cs F G
    intro i hi
    cases i with
    | zero => exact ⟨[], by simpa using Reps.nil, by simp⟩
    | succ i =>
      obtain ⟨F', h1, h2⟩ := ih i (by simpa using hi)
      refine ⟨F ++ F', ?_, fun b hb => ?_⟩
      · have hc := Dat.len h
        rw [List.take_succ_cons, List.take_append, List.take_of_length_le (l := c) (by rw [hc, Nat.succ_mul]; omega), hc, show (i + 1) * Dat.w α - Dat.w α = i * Dat.w α by rw [Nat.succ_mul]; omega]
        exact .cons h h1
      · rcases List.mem_append.1 hb with hb | hb
        · exact List.mem_append_left _ hb
        · exact List.mem_append_right _ (h2 b hb)
theorem weights_all {H : Type} {P : Program} {e : TypeId} : ∀ {ds : List (DataW H)} {d : DataW H}, d ∈ ds → ∀ n ∈ d.weights P e, n ∈ DataW.weightsAll P e ds
  | d0 :: ds, d, hd, n, hn => by
    rw [DataW.weightsAll, List.mem_append]
    rcases List.mem_cons.1 hd with rfl | hd
    · exact .inl hn
    · exact .inr (weights_all hd n hn)
theorem VRels.app {m : Emb} : ∀ {a a' b b' : List Value}, VRels m a a' → VRels m b b' → VRels m (a ++ b) (a' ++ b')
  | _, _, _, _, .nil, k => k
  | _, _, _, _, .cons v v' l l' h r, k => .cons v v' _ _ h (r.app k)
theorem LayT.list {α : Type} [Dat α] {e : TypeId} {isd : ∀ H : Type, DataW H → α → Prop} {sz : α → Prop} (he : LayT P e α isd sz) {H : Type} {enc : TypeId × Value → H} {held : Bool} {ng : Nat} {W : World} {a : Addr} {n : Nat} :
    ∀ (ys : List (DataW H × List MemPlace)) (i0 : Nat) (m : Emb) (A : AH), (∀ i, i < ys.length → (W.cells? 0 (a.add ((i0 + i) * Dat.w α)) (Dat.w α)).bind (DataW.trod enc P W 0 (fun _ => true) held n e) = ys[i]?) →
      (∀ k ∈ DataW.weightsAll P e (ys.map (·.1)), k ≤ reachBytes) → SimR ng W m A →
      ∃ m' A' vs cs' ccs F, SimR ng W m' A' ∧ m.Le m' ∧ Ext A A' ∧ Reps A' vs cs' F ∧ VRels m' cs' ccs ∧ (∀ u ∈ cs', u.oneCell' = true) ∧ vs.length = ys.length ∧ AllD (isd H) (ys.map (·.1)) vs ∧ (∀ v ∈ vs, sz v) ∧
        ccs.length = ys.length * Dat.w α ∧ ∀ j, j < ccs.length → W.cell? (a.add (i0 * Dat.w α + j)) = ccs[j]? := by
  intro ys
  induction ys with
  | nil => intro i0 m A _ _ hS; exact ⟨m, A, [], [], [], [], hS, .refl m, Ext.refl A, .nil, .nil, by simp, rfl, trivial, by simp, by simp, by simp⟩
  | cons y ys ih =>
    intro i0 m A hel hw hS
    have h0 := hel 0 (by simp)
    simp only [Nat.add_zero, List.getElem?_cons_zero] at h0
    rw [Option.bind_eq_some_iff] at h0
    obtain ⟨c0, hc0, ht0⟩ := h0
    obtain ⟨_, hcl, hcc⟩ := World.cells?_some hc0
    obtain ⟨m1, A1, v, cs1, F1, g1, g2, g3, g4, g5, g6, g7, g8⟩ := he.lay n c0 y ht0 (fun k hk => hw k (by rw [List.map_cons]; exact weights_all (List.mem_cons_self ..) k hk)) hS
    obtain ⟨m2, A2, vs, cs2, ccs, F2, k1, k2, k3, k4, k5, k6, k7, k8, k9, k10, k11⟩ := ih (i0 + 1) m1 A1 (fun i hi => by
        have := hel (i + 1) (by simpa using hi)
        rw [show i0 + (i + 1) = i0 + 1 + i by omega] at this
        simpa using this) (fun k hk => hw k (by rw [List.map_cons, DataW.weightsAll]; exact List.mem_append_right _ hk)) g1
    refine ⟨m2, A2, v :: vs, cs1 ++ cs2, c0 ++ ccs, F1 ++ F2, k1, g2.trans k2, g3.trans k3, .cons (Dat.frame g4 fun b hb => ⟨k3.get b (Dat.bound g4 b hb), Nat.lt_of_lt_of_le (Dat.bound g4 b hb) k3.size⟩) k4, (g5.mono k2).app k5,
      fun u hu => ?_, by simp [k7], ⟨g7, k8⟩, fun u hu => ?_, by rw [List.length_append, hcl, k10, List.length_cons, Nat.succ_mul]; omega, fun j hj => ?_⟩
    · rcases List.mem_append.1 hu with hu | hu
      · exact g6 u hu
      · exact k6 u hu
    · rcases List.mem_cons.1 hu with rfl | hu
      · exact g8
      · exact k9 u hu
    · rw [List.getElem?_append]
      split
      · rename_i hlt
        rw [← hcc j (by omega), addr_add]
      · rename_i hge
        rw [List.length_append] at hj
        rw [← k11 (j - c0.length) (by omega), hcl]
        congr 2
        rw [Nat.succ_mul]
        omega
theorem LayT.slice {α : Type} [Dat α] {e : TypeId} {isd : ∀ H : Type, DataW H → α → Prop} {sz : α → Prop} (he : LayT P e α isd sz) (hu : P.underlying t = some (.slice e)) (hc : P.cellsOf t = 1) (hb : 0 < P.bytesOf e) (hw : 0 < Dat.w α) :
    LayT P t (List α) (fun H d l => (d = .nil ∧ l = []) ∨ ∃ es sp, d = .slice es sp ∧ AllD (isd H) es l) (fun l => l.length ≤ reachBytes ∧ ∀ v ∈ l, sz v) := by
  refine ⟨hc, fun {H enc held ng W m A} fuel cs x h hwt hS => ?_⟩
  rcases DataW.trod_slice hu h with ⟨rfl, rfl⟩ | ⟨a, len, cap, elems, rest, n, _, rfl, rfl, _, hl, hm, hlen, hel, hsp, _⟩
  · exact ⟨m, A, [], _, [], hS, .refl m, Ext.refl A, ⟨Sl.nil, rfl, .nil rfl rfl rfl⟩, .cons _ _ _ _ .slNil .nil, by simp [Value.oneCell', Sl.v], .inl ⟨rfl, rfl⟩, by simp, by simp⟩
  · obtain ⟨hrl, hrest⟩ := hsp rfl
    have hrb := reachBytes_lt
    simp only [DataW.weights, hu] at hwt
    have hcap : cap ≤ reachBytes := by
      have := hwt _ (List.mem_cons_self ..)
      rw [List.length_map, List.length_map] at this
      have h1 : (elems.length + rest.length) * 1 ≤ (elems.length + rest.length) * P.bytesOf e := Nat.mul_le_mul_left _ hb
      omega
    have hall : (elems ++ rest).length = cap := by rw [List.length_append]; omega
    obtain ⟨m1, A1, vs, cs1, ccs, F, k1, k2, k3, k4, k5, k6, k7, k8, k9, k10, k11⟩ := he.list (enc := enc) (held := held) (ng := ng) (W := W) (a := a) (n := n) (elems ++ rest) 0 m A (fun i hi => by
        rw [Nat.zero_add, ← he.cells]
        rw [List.getElem?_append]
        split
        · exact hel i (by omega)
        · rename_i hge
          have := hrest (i - elems.length) (by omega)
          rw [show len + (i - elems.length) = i by omega] at this
          exact this) (fun k hk => hwt k (by
        rw [List.map_append] at hk
        refine List.mem_cons_of_mem _ ?_
        have : ∀ (l1 l2 : List (DataW H)), DataW.weightsAll P e (l1 ++ l2) = DataW.weightsAll P e l1 ++ DataW.weightsAll P e l2 := by
          intro l1 l2
          induction l1 with
          | nil => simp [DataW.weightsAll]
          | cons x l ih => rw [List.cons_append, DataW.weightsAll, DataW.weightsAll, ih, List.append_assoc]
        rw [this] at hk
        exact hk)) hS
    have hd : AllD (isd H) (elems.map (·.1)) (vs.take len) := by
      rw [List.map_append] at k8
      have := k8.take
      rwa [List.length_map, hlen] at this
    by_cases hz : cap = 0
    · have hl0 : len = 0 := by omega
      subst hz; subst hl0
      refine ⟨m1, A1, [], [(Sl.mk false 0 0 0 0).v], [], k1, k2, k3, ⟨_, rfl, .empty rfl rfl (by unfold BIG; show 0 < _; omega) rfl rfl⟩, .cons _ _ _ _ (.slEmpty _ _ 0 (.inl rfl) (fun h => by unfold BIG at h; omega)) .nil,
        by simp [Value.oneCell', Sl.v], .inr ⟨_, _, rfl, by simpa using hd⟩, by simp, by simp⟩
    · have hpos : 0 < ccs.length := by rw [k10, hall]; exact Nat.mul_pos (by omega) hw
      have hlc : cs1.length = ccs.length := k5.length
      have hrow : ∃ c' el fz, W.heap[a.block]? = some (.cells c' el fz) ∧ a.spot = none ∧ ∀ j, j < ccs.length → c'[a.off + j]? = ccs[j]? := by
        have h0 := k11 0 hpos
        simp only [Nat.zero_mul, Nat.zero_add] at h0
        have ha0 : a.add 0 = a := rfl
        rw [ha0, World.cell?] at h0
        have hs : ccs[0]? = some ccs[0] := by simp [hpos]
        rw [hs] at h0
        split at h0
        · rename_i c' el fz hh
          split at h0
          · cases h0
          · rename_i hspot
            refine ⟨c', el, fz, hh, by simpa using hspot, fun j hj => ?_⟩
            have := k11 j hj
            rw [Nat.zero_mul, Nat.zero_add, World.cell?] at this
            have hab : (a.add j).block = a.block := by unfold Addr.add; split <;> rfl
            have hao : (a.add j).off = a.off + j := by unfold Addr.add; split <;> simp_all
            have has : (a.add j).spot.isSome = false := by unfold Addr.add; split <;> simp_all
            rw [hab, hh, hao] at this
            simpa [has] using this
        · cases h0
      obtain ⟨c', el, fz, hh, hspot, hcells⟩ := hrow
      have hbound : a.off + cs1.length ≤ c'.size := by
        rw [hlc]
        have := hcells (ccs.length - 1) (by omega)
        have hs : ccs[ccs.length - 1]? = some ccs[ccs.length - 1] := by simp
        rw [hs] at this
        rcases Nat.lt_or_ge (a.off + (ccs.length - 1)) c'.size with h' | h'
        · omega
        · rw [Array.getElem?_eq_none h'] at this; cases this
      obtain ⟨q1, q2⟩ := k1.add (r := a.block) (s := a.off) (e := Dat.w α) (c := cs1) hh hbound (fun i v hv => by
        obtain ⟨v', hv', hr⟩ := k5.get hv
        refine ⟨k6 v (List.mem_of_getElem? hv), v', ?_, hr⟩
        rw [hcells i (by rw [← hlc]; rcases Nat.lt_or_ge i cs1.length with h' | h'; exact h'; rw [List.getElem?_eq_none h'] at hv; cases hv)]
        exact hv')
      obtain ⟨F', t1, t2⟩ := k4.take len (by omega)
      refine ⟨_, A1.new (.cells cs1 (Dat.w α)), vs.take len, [(Sl.mk false A1.size 0 len cap).v], A1.size :: F', q1, k2.trans q2, k3.trans (Ext.new _ _), ⟨_, rfl, .inB ⟨rfl, by simp [AH.new], by simp <;> omega, .inr ⟨hl, by unfold BIG; show cap < _; omega⟩,
        cs1, _, F', AH.get_new_self _ _, ?_, rfl, ?_, rfl⟩⟩, ?_, by simp [Value.oneCell', Sl.v], .inr ⟨_, _, rfl, hd⟩, by simp <;> omega, fun v hv => k9 v (List.mem_of_mem_take hv)⟩
      · show 0 + len * Dat.w α ≤ cs1.length
        rw [hlc, k10, hall, Nat.zero_add]; exact Nat.mul_le_mul_right _ hl
      · rw [List.drop_zero]
        exact t1.frame fun b hb => ⟨AH.get_new_other (by have := k4.bound b (t2 b hb); omega), by have := k4.bound b (t2 b hb); show b < A1.size + 1; omega⟩
      · refine .cons _ _ _ _ ?_ .nil
        have := VRel.slExact (m := m1.add A1.size a.block a.off c'.size (Dat.w α)) A1.size 0 len cap Emb.add_dom (by unfold BIG; omega) hl
        obtain ⟨ab, ao, as⟩ := a
        subst hspot
        simpa [Sl.v] using this
end
end Go.AM
