import Derived.Test.YtjlbcofopapajaaDoorAmSD
import Derived.Test.YtjlbcofopapajaaDoorAmTX
import Derived.Shelf.GgSortFunc.InsertionK
import Derived.Shelf.SlSortFuncK.WholeK
import Derived.Shelf.GgSortFunc.Tiny
namespace Go.AM
open Go Go.RowKit
set_option linter.all false
abbrev El := ByteArray × {v : Value // v.oneCell' = true}
instance : Inhabited El := ⟨(.empty, ⟨.bool false, rfl⟩)⟩
def encE (x : El) : List Value := [.string x.1, x.2.1]
theorem encE_len (x : El) : (encE x).length = 2 := rfl
theorem encE_one (x : El) : ∀ v ∈ encE x, v.oneCell' = true := by
 intro v hv
 simp only [encE, List.mem_cons, List.not_mem_nil, or_false] at hv
 rcases hv with rfl | rfl
 ·rfl
 ·exact x.2.2
def ltE (x y : El) : Bool := Op.bytesLess x.1.toList y.1.toList
theorem ltE_iff {x y : El} : ltE x y = true ↔ slt x.1 y.1 := Iff.rfl
theorem ltE_not {x y : El} : ltE x y = false ↔ ¬ slt x.1 y.1 := by unfold ltE slt; simp
theorem swo_ltE : Sort.SWO ltE where
 irrefl x := ltE_not.2 (slt_irrefl _)
 trans x y z h k := ltE_iff.2 (slt_trans (ltE_iff.1 h) (ltE_iff.1 k))
 ntrans x y z h k := by
  rw [ltE_not] at h k ⊢
  intro hxz
  by_cases hyx : slt y.1 x.1
  ·exact k (slt_trans hyx hxz)
  ·have := slt_total h hyx; rw [this] at hxz; exact k hxz
def flatE : List (ByteArray × Value) → List Value
 | [] => []
 | x :: l => .string x.1 :: x.2 :: flatE l
theorem flatE_len : ∀ l : List (ByteArray × Value), (flatE l).length = 2 * l.length
 | [] => rfl
 | x :: l => by simp only [flatE, List.length_cons, flatE_len l]; omega
theorem flatE_get : ∀ (l : List (ByteArray × Value)) (i : Nat) (h : i < l.length), (flatE l)[2 * i]? = some (.string l[i].1) ∧ (flatE l)[2 * i + 1]? = some l[i].2
 | x :: l, 0, _ => ⟨rfl, rfl⟩
 | x :: l, i + 1, h => by
   have := flatE_get l i (by simpa using h)
   rw [show 2 * (i + 1) = 2 * i + 1 + 1 by omega]
   exact this
def ElRel (m : Emb) (L : List (ByteArray × Value)) (d : Array El) : Prop := d.size = L.length ∧ ∀ (i : Nat) (h : i < L.length), d[i]!.1 = L[i].1 ∧ VRel m L[i].2 d[i]!.2.1
section
variable {ng ro base : Nat} {w0 : World} {m : Emb} {A : AH} {w : World}
theorem flatK_even (d : Array El) (i : Nat) (h : i < d.size) : (Sort.flatK encE 2 d)[2 * i]! = .string d[i]!.1 := by
 rw [Sort.get_flatK _ _ _ _ (by omega), show 2 * i / 2 = i by omega, show 2 * i % 2 = 0 by omega]
 rfl
theorem flatK_odd (d : Array El) (i : Nat) (h : i < d.size) : (Sort.flatK encE 2 d)[2 * i + 1]! = d[i]!.2.1 := by
 rw [Sort.get_flatK _ _ _ _ (by omega), show (2 * i + 1) / 2 = i by omega, show (2 * i + 1) % 2 = 1 by omega]
 rfl
theorem row_elems (hS : Sim ng ro base w0 m A w) {b o e : Nat} {c : List Value} {L : List (ByteArray × Value)} (hc : A.get b = .cells c e) (hro : ro ≤ b) (hl : o + 2 * L.length ≤ c.length)
 (hL : (c.drop o).take (2 * L.length) = flatE L) : ∃ d : Array El, ElRel m L d ∧ Sort.HoldsK encE 2 w (m.r b) (m.s b + o) d := by
 obtain ⟨hd, c', el, fz, g1, g2, g3, g4, g5, g6⟩ := hS.cells b c e hc
 have hcell : ∀ j, j < 2 * L.length → c[o + j]? = (flatE L)[j]? := fun j hj => by
  rw [← hL, List.getElem?_take, if_pos hj, List.getElem?_drop]
 have hex : ∀ i : Fin L.length, ∃ x : El, x.1 = L[i].1 ∧ VRel m L[i].2 x.2.1 ∧ c'[m.s b + (o + 2 * i)]? = some (.string L[i].1) ∧ c'[m.s b + (o + (2 * i + 1))]? = some x.2.1 := fun ⟨i, hi⟩ => by
  obtain ⟨f1, f2⟩ := flatE_get L i hi
  obtain ⟨_, v1, h1, r1⟩ := g5 _ _ ((hcell (2 * i) (by omega)).trans f1)
  obtain ⟨k2, v2, h2, r2⟩ := g5 _ _ ((hcell (2 * i + 1) (by omega)).trans f2)
  cases r1
  exact ⟨(L[i].1, ⟨v2, by rw [r2.oneCell]; exact k2⟩), rfl, r2, h1, h2⟩
 let f : Fin L.length → El := fun i => Classical.choose (hex i)
 have hf : ∀ i : Fin L.length, (f i).1 = L[i].1 ∧ VRel m L[i].2 (f i).2.1 ∧ c'[m.s b + (o + 2 * i)]? = some (.string L[i].1) ∧ c'[m.s b + (o + (2 * i + 1))]? = some (f i).2.1 := fun i => Classical.choose_spec (hex i)
 have hget : ∀ (i : Nat) (h : i < L.length), (Array.ofFn f)[i]! = f ⟨i, h⟩ := fun i h => by
  rw [getElem!_pos _ i (by simpa using h)]; simp
 refine ⟨Array.ofFn f, ⟨by simp, fun i h => ?_⟩, fun j hj => ?_⟩
 ·rw [hget i h]
  exact ⟨(hf ⟨i, h⟩).1, (hf ⟨i, h⟩).2.1⟩
 ·have hj' : j < L.length * 2 := by simpa using hj
  refine ⟨?_, ?_⟩
  ·rw [cell_row g1]
   rcases Nat.mod_two_eq_zero_or_one j with h0 | h0
   ·obtain ⟨i, rfl⟩ : ∃ i, j = 2 * i := ⟨j / 2, by omega⟩
    have hi : i < L.length := by omega
    rw [flatK_even _ _ (by simpa using hi), hget i hi, (hf ⟨i, hi⟩).1]
    have := (hf ⟨i, hi⟩).2.2.1
    rw [Nat.add_assoc]
    exact this
   ·obtain ⟨i, rfl⟩ : ∃ i, j = 2 * i + 1 := ⟨j / 2, by omega⟩
    have hi : i < L.length := by omega
    rw [flatK_odd _ _ (by simpa using hi), hget i hi]
    have := (hf ⟨i, hi⟩).2.2.2
    rw [Nat.add_assoc]
    exact this
  ·rw [frozen_row g1]
   have := g6 hro (m.s b + o + j) (by omega)
   simpa using this
theorem Step.junk {w' : World} (h : Sim ng ro base w0 m A w) (ho : w'.os = w.os) (ht : w'.tape = w.tape) (hu : w'.output = w.output) (hs : w.heap.size ≤ w'.heap.size) (hk : ∀ k, k < w.heap.size → w'.heap[k]? = w.heap[k]?) :
 Step ng ro base w0 m A w m A w' := by
 refine ⟨.refl m, ?_, Nat.le_refl _, hs, fun r hr _ => hk r hr, fun b hb => .inl ⟨b, hb, rfl⟩⟩
 refine ⟨h.glob, h.dlt, fun b c e hb => ?_, fun b es hb => ?_, h.rw, h.inj, h.lo, Nat.le_trans h.bl hs, h.rl, h.old.trans ⟨ho, ht, hu, hs, fun k hk' => hk k (Nat.lt_of_lt_of_le hk' h.bl)⟩⟩
 ·obtain ⟨h1, c', el, fz, h2, h3⟩ := h.cells b c e hb
  exact ⟨h1, c', el, fz, (hk _ (h.lt (by rw [hb]; simp))).trans h2, h3⟩
 ·obtain ⟨h1, es', cl, h2, h3⟩ := h.maps b es hb
  exact ⟨h1, es', cl, (hk _ (h.lt (by rw [hb]; simp))).trans h2, h3⟩
theorem sort_step (hS : Sim ng ro base w0 m A w) {b o e : Nat} {c : List Value} {L : List (ByteArray × Value)} (hc : A.get b = .cells c e) (hro : ro ≤ b) (hl : o + 2 * L.length ≤ c.length) {d : Array El} (hd : ElRel m L d)
 (h1 : ∀ x ∈ L, x.2.oneCell' = true) (q : Nat) (os : Array Obj) :
 Step ng ro base w0 m A w m (A.put b (.cells (setCells c o (flatE L)) e)) (Sort.grow (Sort.putRowK encE 2 (Sort.ahead w q) (m.r b) (m.s b + o) d) os) := by
 obtain ⟨hdom, c', el, fz, g1, g2, g3, g4, g5, g6⟩ := hS.cells b c e hc
 have hsz : (Sort.flatK encE 2 d).size = 2 * L.length := by rw [Sort.size_flatK, hd.1]; omega
 have hheap : (Sort.putRowK encE 2 (Sort.ahead w q) (m.r b) (m.s b + o) d).heap = w.heap.modify (m.r b) (Sort.onCells (Sort.putCells id (m.s b + o) (Sort.flatK encE 2 d))) := rfl
 have hone : OneBlock (m.r b) (.cells (Sort.putCells id (m.s b + o) (Sort.flatK encE 2 d) c') el fz) w (Sort.putRowK encE 2 (Sort.ahead w q) (m.r b) (m.s b + o) d) := by
  refine ⟨rfl, rfl, rfl, by rw [hheap]; simp, ?_, fun k hk => ?_⟩
  ·rw [hheap, Array.getElem?_modify, if_pos rfl, g1]; rfl
  ·rw [hheap, Array.getElem?_modify, if_neg (fun e => hk e.symm)]
 have hcs : (Sort.putCells id (m.s b + o) (Sort.flatK encE 2 d) c').size = c'.size := by simp [Sort.putCells]
 have s1 : Step ng ro base w0 m A w m (A.put b (.cells (setCells c o (flatE L)) e)) (Sort.putRowK encE 2 (Sort.ahead w q) (m.r b) (m.s b + o) d) := by
  refine Step.put hS (by rw [hc]; simp) hro hone ?_ (fun es h => by cases h)
  intro c2 e2 h2
  cases h2
  refine ⟨_, el, fz, rfl, by rw [hcs]; exact g2, by rw [hcs]; exact g3, by rw [hcs, setCells_length]; exact g4, ?_, by rw [hcs]; exact g6 hro⟩
  have hfl := flatE_len L
  intro i v hv
  have hget : (Sort.putCells id (m.s b + o) (Sort.flatK encE 2 d) c')[m.s b + i]? = (c'[m.s b + i]?).map fun x => if m.s b + o ≤ m.s b + i ∧ m.s b + i < m.s b + o + (Sort.flatK encE 2 d).size then (Sort.flatK encE 2 d)[m.s b + i - (m.s b + o)]! else x := by
   simp [Sort.putCells]
  rw [setCells_get _ c o i (by omega)] at hv
  rw [hsz] at hget
  by_cases hin : o ≤ i ∧ i < o + (flatE L).length
  ·rw [if_pos hin] at hv
   rw [hfl] at hin
   obtain ⟨y, hy⟩ : ∃ y, c'[m.s b + i]? = some y := ⟨c'[m.s b + i]'(by omega), by simp⟩
   rw [hy, Option.map_some, if_pos (by omega)] at hget
   rcases Nat.mod_two_eq_zero_or_one (i - o) with h0 | h0
   ·obtain ⟨j, hj⟩ : ∃ j, i = o + 2 * j := ⟨(i - o) / 2, by omega⟩
    subst hj
    have hjl : j < L.length := by omega
    rw [show o + 2 * j - o = 2 * j by omega, (flatE_get L j hjl).1] at hv
    cases hv
    refine ⟨rfl, _, hget, ?_⟩
    rw [show m.s b + (o + 2 * j) - (m.s b + o) = 2 * j by omega, flatK_even d j (by rw [hd.1]; exact hjl), (hd.2 j hjl).1]
    exact .string _
   ·obtain ⟨j, hj⟩ : ∃ j, i = o + (2 * j + 1) := ⟨(i - o) / 2, by omega⟩
    subst hj
    have hjl : j < L.length := by omega
    rw [show o + (2 * j + 1) - o = 2 * j + 1 by omega, (flatE_get L j hjl).2] at hv
    cases hv
    refine ⟨h1 _ (List.getElem_mem _), _, hget, ?_⟩
    rw [show m.s b + (o + (2 * j + 1)) - (m.s b + o) = 2 * j + 1 by omega, flatK_odd d j (by rw [hd.1]; exact hjl)]
    exact (hd.2 j hjl).2
  ·rw [if_neg hin] at hv
   obtain ⟨k1, v', k2, k3⟩ := g5 i v hv
   refine ⟨k1, v', ?_, k3⟩
   rw [hget, k2, Option.map_some, if_neg (by omega)]
 refine s1.trans (Step.junk s1.sim rfl rfl rfl ?_ fun k hk => ?_)
 ·show _ ≤ (_ ++ os).size; simp
 ·show (_ ++ os)[k]? = _
  rw [Array.getElem?_append, if_pos hk]
end
theorem sorted_rel {m : Emb} {L L' : List (ByteArray × Value)} {d d' : Array El} (hd : ElRel m L d) (hL : L'.Perm L) (hs : L'.Pairwise fun x y => slt x.1 y.1) (hp : Sort.PermIn 0 d.size d d') (hso : Sort.SortedIn ltE 0 d.size d') : ElRel m L' d' := by
 obtain ⟨p1, _, p3⟩ := hp
 rw [show d'.extract 0 d.size = d' by rw [← p1]; exact Array.extract_size, Array.extract_size] at p3
 have hlen := hL.length_eq
 have hkd : d.toList.map (·.1) = L.map (·.1) := by
  refine List.ext_getElem (by simp [hd.1]) fun i h1 h2 => ?_
  have hi : i < L.length := by simpa using h2
  have hi' : i < d.size := by rw [hd.1]; exact hi
  have := (hd.2 i hi).1
  rw [getElem!_pos d i hi'] at this
  simpa using this
 have hkp : (d'.toList.map (·.1)).Perm (L'.map (·.1)) := by
  refine (p3.map _).trans ?_
  rw [hkd]
  exact (hL.map _).symm
 have hks : d'.toList.map (·.1) = L'.map (·.1) := by
  refine List.Perm.eq_of_pairwise (le := fun x y : ByteArray => ¬ slt y x) ?_ ?_ ?_ hkp
  ·intro a b _ _ h1 h2; exact slt_total h2 h1
  ·rw [List.pairwise_map, List.pairwise_iff_getElem]
   intro i j hi hj hij
   have hj' : j < d.size := by simpa [p1] using hj
   have := hso i j (Nat.zero_le _) hij hj'
   rw [ltE_not, getElem!_pos d' i (by rw [p1]; omega), getElem!_pos d' j (by rw [p1]; omega)] at this
   simpa using this
  ·rw [List.pairwise_map]
   exact hs.imp fun h => slt_asymm h
 have hnd : ∀ (i j : Nat) (hi : i < L.length) (hj : j < L.length), L[i].1 = L[j].1 → i = j := by
  have hn : (L.map (·.1)).Nodup := by
   refine (hL.map _).nodup_iff.1 ?_
   refine List.Pairwise.imp ?_ (List.pairwise_map.2 hs)
   intro a b h e
   rw [e] at h
   exact slt_irrefl _ h
  intro i j hi hj e
  have hp := List.pairwise_iff_getElem.1 hn
  rcases Nat.lt_trichotomy i j with h | h | h
  ·exact absurd (by rw [List.getElem_map, List.getElem_map]; exact e) (hp i j (by simpa using hi) (by simpa using hj) h)
  ·exact h
  ·exact absurd (by rw [List.getElem_map, List.getElem_map]; exact e.symm) (hp j i (by simpa using hj) (by simpa using hi) h)
 refine ⟨by rw [p1, hd.1, hlen], fun i h => ?_⟩
 have hi' : i < d'.size := by rw [p1, hd.1, ← hlen]; exact h
 have e1 : d'[i]!.1 = L'[i].1 := by
  have := congrArg (fun l => l[i]?) hks
  simp only [List.getElem?_map, List.getElem?_eq_getElem h, List.getElem?_eq_getElem (show i < d'.toList.length by simpa using hi'), Option.map_some, Option.some.injEq] at this
  rw [getElem!_pos d' i hi']
  simpa using this
 refine ⟨e1, ?_⟩
 have hmem : d'[i]! ∈ d.toList := by
  refine p3.mem_iff.1 ?_
  rw [getElem!_pos d' i hi']
  simp
 obtain ⟨j, hj, ej⟩ := List.getElem_of_mem hmem
 have hj' : j < d.size := by simpa using hj
 have hjL : j < L.length := by rw [← hd.1]; exact hj'
 have hm2 : L'[i] ∈ L := hL.mem_iff.1 (List.getElem_mem _)
 obtain ⟨k, hk, ek⟩ := List.getElem_of_mem hm2
 have hjk : j = k := hnd j k hjL hk (by
  rw [← (hd.2 j hjL).1, ek, ← e1, getElem!_pos d j hj']
  have : d.toList[j] = d[j] := by simp
  rw [← this, ej])
 subst hjk
 have := (hd.2 j hjL).2
 rw [ek, getElem!_pos d j hj', show d[j] = d.toList[j] by simp, ej] at this
 exact this
inductive SortX (fS : FuncId) (T : List (TypeId × FuncId × Nat)) (ro : Nat) (f : FuncId) (args : List Value) (A : AH) : ARes → AH → Prop
 | mk {t g k b o n c p e ep : Nat} {cs cp : List Value} {L L' : List (ByteArray × Value)} (hf : f = fS) (hT : (t, g, k) ∈ T) (ha : args = [.iface t (.slice (some ⟨b, o, none⟩) n c), .func (.func g) #[] #[.pointer (some ⟨p, 0, none⟩)]])
  (hp : A.get p = .cells cp ep) (hk : cp[k]? = some (.slice (some ⟨b, o, none⟩) n c)) (hne : b ≠ p) (hrb : ro ≤ b) (hrp : ro ≤ p) (hb : A.get b = .cells cs e) (hl : o + 2 * n ≤ cs.length) (hL : (cs.drop o).take (2 * n) = flatE L) (hn : L.length = n)
  (h1 : 1 ≤ n) (hlim : n < 4294967296) (hperm : L'.Perm L) (hs : L'.Pairwise fun x y => slt x.1 y.1) : SortX fS T ro f args A (.ret (.tuple #[])) (A.put b (.cells (setCells cs o (flatE L')) e))
end Go.AM
namespace Go.AM
open Go Go.RowKit Go.Shelf Go.Proofs
set_option linter.all false
theorem flatE_one {L : List (ByteArray × Value)} {c cs : List Value} {o n : Nat} (h : (c.drop o).take (2 * n) = flatE L) (hn : L.length = n) (h1 : ∀ v ∈ (c.drop o).take (2 * n), v.oneCell' = true) : ∀ x ∈ L, x.2.oneCell' = true := by
 intro x hx
 obtain ⟨i, hi, rfl⟩ := List.getElem_of_mem hx
 have := (flatE_get L i hi).2
 rw [← h] at this
 exact h1 _ (List.mem_of_getElem? this)
theorem slice_inv {m : Emb} {b o n c : Nat} {v : Value} (h : VRel m (.slice (some ⟨b, o, none⟩) n c) v) (h1 : 1 ≤ n) : ∃ c', v = .slice (some ⟨m.r b, m.s b + o, none⟩) n c' := by
 cases h with
 | slEmpty => omega
 | slExact _ _ _ _ _ _ _ => exact ⟨_, rfl⟩
 | slBig _ _ _ c' _ _ _ => exact ⟨c', rfl⟩
theorem sort_sound {P : Program} {ρ : Ren} {ng ro base : Nat} {w0 : World} (L6 : LaysGg.n6 P ρ) {t el g k : Nat} (svT svE : TypeInfo) (hT : P.info? t = some svT) (hdT : svT.desc = .slice el) (hpk : P.packed t = false) (hE : P.info? el = some svE)
 (hke : ∀ w, (Extern.Rtype.kind el).run P w = .ok 25 w) (hsz : svE.size = 2) (hagg : ∀ w, (isAgg el).run P w = .ok true w) (hpt : svE.hasPointers = true) (hby : svE.bytes ≠ 8)
 (hfS : ∀ args w, (callFunc (ρ.f 6) args).run P w = .ok (.enter (ρ.f 6) args) w) (eg : ∀ args w, (callFunc g args).run P w = .ok (.enter g args) w)
 {f2 f9 : Nat} (hf2 : P.funcs.findIdx? (·.name == "internal/reflectlite" ++ ".Swapper$" ++ toString 2) = some f2) (hf9 : P.funcs.findIdx? (·.name == "internal/reflectlite" ++ ".Swapper$" ++ toString 9) = some f9)
 (hx : ∀ args W, (callFunc f9 args).run P W = ((Extern.ReflectliteSwapper.swap false args).run P W).andThen fun v w' => .ok (.value v) w')
 (less : ∀ (blk off c Bs Bo size : Nat) (W : World) (G : Nat → ByteArray), W.cell? ⟨Bs, Bo + k, none⟩ = some (.slice (some ⟨blk, off, none⟩) size c) → (∀ t, t < size → W.cell? ⟨blk, off + t * 2, none⟩ = some (.string (G t))) → ∀ (i j : Nat), i < size → j < size →
   Calls P g #[.int .i64 i, .int .i64 j, .pointer (some ⟨Bs, Bo, none⟩)] W fun e w' => e = .returned (.bool (Op.bytesLess (G i).toList (G j).toList)) ∧ ∃ q, w' = W.drewN q)
 {f : FuncId} {args : List Value} {A : AH} {r : ARes} {A' : AH} (h : SortX (ρ.f 6) [(t, g, k)] ro f args A r A') : CallSound P ng ro base w0 f args A r A' ∧ A.size ≤ A'.size := by
 obtain @⟨t', g', k', b, o, n, c, p, e, ep, cs, cp, L, L', hf, hmem, ha, hp, hk, hne, hrb, hrp, hb, hl, hL, hn, h1, hlim, hperm, hs⟩ := h
 simp only [List.mem_singleton, Prod.mk.injEq] at hmem
 obtain ⟨rfl, rfl, rfl⟩ := hmem
 subst hf ha hn
 refine ⟨fun m w args' hS hv => ?_, Nat.le_refl _⟩
 cases hv with
 | cons _ v1 _ l1 g1 hv =>
 cases hv with
 | cons _ v2 _ l2 g2 hv =>
 cases hv
 cases g1 with
 | iface _ _ v1 g1 =>
 obtain ⟨c1, rfl⟩ := slice_inv g1 h1
 cases g2 with
 | func _ _ fa _ ca g2 g3 =>
 obtain ⟨fa⟩ := fa
 obtain ⟨ca⟩ := ca
 cases g2
 cases g3 with
 | cons _ v3 _ l3 g3 g4 =>
 cases g4
 obtain ⟨_, _, e3, rfl, hdp⟩ := g3.ptr_inv
 cases e3
 left
 refine ⟨hfS _ _, ?_⟩
 obtain ⟨d, hd, hH⟩ := row_elems hS hb hrb hl hL
 have hone : ∀ x ∈ L, x.2.oneCell' = true := by
  refine flatE_one (cs := cs) hL rfl fun v hv => ?_
  obtain ⟨_, c', el', fz, _, _, _, _, g5, _⟩ := hS.cells b cs e hb
  obtain ⟨i, hi⟩ := List.getElem?_of_mem hv
  rw [List.getElem?_take] at hi
  split at hi
  ·rw [List.getElem?_drop] at hi; exact (g5 _ _ hi).1
  ·cases hi
 have hone' : ∀ x ∈ L', x.2.oneCell' = true := fun x hx => hone x (hperm.mem_iff.1 hx)
 have hlen := hperm.length_eq
 have hdz := hd.1
 obtain ⟨_, vp, hcp, hvp⟩ := cell_ok hS (b := p) (o := k') (v := .slice (some ⟨b, o, none⟩) L.length c) (by unfold aCell; simp only [hp]; exact hk)
 obtain ⟨c2, rfl⟩ := slice_inv hvp h1
 have hpb : m.r p ≠ m.r b := fun he => hne (hS.inj p b (by rw [hp]; simp) (by rw [hb]; simp) hrp hrb he).symm
 have hplt : m.r p < w.heap.size := hS.lt (by rw [hp]; simp)
 have hblt : m.r b < w.heap.size := hS.lt (by rw [hb]; simp)
 have fin : ∀ (d' : Array El) (q : Nat) (os : Array Obj), ElRel m L' d' → EndRel ng ro base w0 m A w (A.put b (.cells (setCells cs o (flatE L')) e)) (.ret (.tuple #[])) (.returned (.tuple #[])) (Sort.grow (Sort.putRowK encE 2 (Sort.ahead w q) (m.r b) (m.s b + o) d') os) := fun d' q os hd' =>
  ⟨m, sort_step hS hb hrb (by omega) hd' hone' q os, .tuple _ _ .nil⟩
 by_cases h2 : 2 ≤ d.size
 ·have hK : Lib.swapperK d.size svE 25 = 9 := by
   have c : (d.size == 0) = false := by rw [beq_eq_false_iff_ne]; omega
   have d : (d.size == 1) = false := by rw [beq_eq_false_iff_ne]; omega
   have q : (svE.bytes == 8) = false := by simp [hby]
   simp [Lib.swapperK, hpt, q, c, d]
  have hless : LessReadsK P g' #[.pointer (some ⟨m.r p, m.s p + 0, none⟩)] encE 2 ltE (m.r b) (m.s b + o) d.size w := by
   intro mm os dk hdk i j hi hj
   have e : sortWorldK encE 2 w (m.r b) (m.s b + o) mm dk os = Sort.putRowK encE 2 (Sort.grow (Sort.ahead w mm) os) (m.r b) (m.s b + o) dk := by
    unfold sortWorldK; rw [Sort.putRowK_grow _ _ (Sort.ahead w mm) _ _ _ _ hblt]
   have hHg : Sort.HoldsK encE 2 (Sort.grow (Sort.ahead w mm) os) (m.r b) (m.s b + o) d := Sort.holdsK_grow _ _ _ _ _ _ d hblt (Sort.holdsK_ahead _ _ _ _ _ _ _ hH)
   refine less (m.r b) (m.s b + o) c2 (m.r p) (m.s p + 0) d.size _ (fun t => dk[t]!.1) ?_ (fun t ht => ?_) i j hi hj
   ·rw [e, Sort.cell?_putRowK_other _ _ _ _ _ dk _ (by exact hpb), Sort.cell?_grow _ _ _ (by exact hplt)]
    rw [hdz, Nat.add_zero]; exact hcp
   ·rw [e]; exact ((Sort.holdsK_putRowK _ _ _ _ _ d dk hHg hdk).cell (i := t) (c := 0) (by omega) (by omega)).1
  have hfin := Any.sort_Slice_cells_sorted L6 t' el svT svE hT hdT hpk hE 25 hke encE 2 encE_len hsz hagg encE_one ltE swo_ltE g' _ eg (m.r b) (m.s b + o) c1 d h2 (by rw [hdz]; omega) f9 (by rw [hK]; exact hf9) false hx w hless hH hblt
  rw [← hdz]
  refine hfin.mono ?_
  rintro en w' ⟨rfl, d', q, os, hpm, hso, rfl⟩
  exact fin d' q os (sorted_rel hd hperm hs hpm hso)
 ·have hd1 : L.length = 1 := by omega
  have hLL : L' = L := by
   cases L with
   | nil => simp at hd1
   | cons x l =>
     have : l = [] := List.eq_nil_of_length_eq_zero (by simpa using hd1)
     subst this
     exact List.perm_singleton.1 hperm
  have hK : Lib.swapperK L.length svE 25 = 2 := by rw [hd1]; rfl
  refine (Any.sort_Slice_tiny L6 t' el svT svE hT hdT hpk hE 25 hke (some ⟨m.r b, m.s b + o, none⟩) L.length c1 (by omega) f2 (by rw [hK]; exact hf2) (.func g') #[] _ w).mono ?_
  rintro en w' ⟨rfl, os, rfl⟩
  have := fin d 0 os (by rw [hLL]; exact hd)
  rwa [Sort.ahead_zero, Sort.putRowK_self _ _ _ _ _ _ hH] at this
end Go.AM
