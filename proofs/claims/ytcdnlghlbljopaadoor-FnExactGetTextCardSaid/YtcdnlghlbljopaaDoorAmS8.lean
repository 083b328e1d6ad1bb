/- Soundness of the abstract machine, eighth part: conversions. -/
import Derived.Test.YtcdnlghlbljopaaDoorAmS7
namespace Go.AM
open Go Go.RowKit
section
variable {P : Program} {ng ro base : Nat} {w0 : World} {m : Emb} {A : AH} {w : World} {n0 : Nat} (hf : ¬ m.dom n0) (hr : ro ≤ n0)
theorem strOf_ints {m : Emb} : ∀ {cs cs' : List Value} {l : List UInt8}, VRels m cs cs' → strOf cs = some l → ∃ ns : List Int, cs' = ns.map (Value.int .u8) ∧ l = ns.map fun n => UInt8.ofNat n.toNat
  | _, _, _, .nil, h => by cases h; exact ⟨[], rfl, rfl⟩
  | _, _, l, .cons v v' c c' hv k, h => by
    unfold strOf at h
    split at h
    · rename_i he; cases he
    · rename_i n r he
      cases he
      obtain ⟨l', hl, rfl⟩ := Option.map_eq_some_iff.1 h
      obtain ⟨ns, rfl, rfl⟩ := strOf_ints k hl
      obtain rfl := hv.int_l
      exact ⟨n :: ns, rfl, rfl⟩
    · cases h
theorem foldl_push (ns : List Int) : ∀ (s : ByteArray), ns.foldl (fun r n => r.push (UInt8.ofNat n.toNat)) s = ⟨s.data ++ (ns.map fun n => UInt8.ofNat n.toNat).toArray⟩ := by
  induction ns with
  | nil => intro s; simp
  | cons n ns ih =>
    intro s
    rw [List.foldl_cons, ih]
    congr 1
    apply Array.ext'
    simp [ByteArray.push]
theorem tBytes_und {t : TypeId} (h : tBytes P t = true) : ∃ e, P.underlying t = some (.slice e) ∧ P.underlying e = some (.int .u8) := by
  unfold tBytes at h
  split at h
  · rename_i e he
    exact ⟨e, tElem_und he, tKind_int (by simpa using h)⟩
  · cases h
theorem VRels_bytes (m : Emb) (s : ByteArray) : VRels m (bytesOf s) (bytesOf s) := by
  apply VRels.ground1
  intro v hv
  obtain ⟨b, _, rfl⟩ := List.mem_map.1 hv
  rfl
theorem bytesOf_length (s : ByteArray) : (bytesOf s).length = s.size := by simp [bytesOf]
theorem bytesOf_oneCell (s : ByteArray) : ∀ v ∈ bytesOf s, v.oneCell' = true := by
  intro v hv
  obtain ⟨b, _, rfl⟩ := List.mem_map.1 hv
  rfl
include hf hr in
theorem stringToBytes_ok (hS : Sim ng ro base w0 m A w) (e : TypeId) (s : ByteArray) :
    ∃ m' w' r, (Conv.stringToBytes e s).run P w = .ok r w' ∧ Step ng ro base w0 m A w m' (A.newAt n0 (.cells (bytesOf s) 1)) w' ∧ VRel m' (.slice (some ⟨n0, 0, none⟩) s.size BIG) r ∧ DomOk m m' n0 := by
  let q := Question.appendCap s.size 0 e
  let cap := q.cut (w.tape w.drawn q)
  have hcap : s.size ≤ cap := Nat.le_add_right _ _
  let C : Array Value := (s.data.map fun (b : UInt8) => Value.int .u8 b.toNat) ++ Array.replicate (cap - s.size) (Value.int .u8 0)
  have hC : C.size = cap := by
    show ((s.data.map fun (b : UInt8) => Value.int .u8 b.toNat) ++ Array.replicate (cap - s.size) (Value.int .u8 0)).size = cap
    have : s.data.size = s.size := rfl
    simp; omega
  let w' : World := { w with heap := w.heap.push (.cells C e (cap, cap + 1)), drawn := w.drawn + 1 }
  have hstep := Step.new hf hr (e := 1) (c := bytesOf s) (c' := C) (el := e) (fz := (cap, cap + 1)) hS (w' := w') rfl rfl rfl rfl (by rw [bytesOf_length, hC]; exact hcap) (by
      intro i v hv
      have hi : i < s.size := by
        rcases Nat.lt_or_ge i (bytesOf s).length with h | h
        · rwa [bytesOf_length] at h
        · rw [List.getElem?_eq_none h] at hv; cases hv
      refine ⟨bytesOf_oneCell s v (List.mem_of_getElem? hv), v, ?_, ?_⟩
      · have hi' : i < s.data.size := hi
        show ((s.data.map fun (b : UInt8) => Value.int .u8 b.toNat) ++ Array.replicate (cap - s.size) (Value.int .u8 0))[0 + i]? = some v
        rw [Nat.zero_add, Array.getElem?_append_left (by simpa using hi')]
        simpa [bytesOf] using hv
      · obtain ⟨b, _, rfl⟩ := List.mem_map.1 (List.mem_of_getElem? hv)
        exact .int _ _) (by rw [hC]; exact freeRow_end)
  refine ⟨_, w', .slice (some ⟨w.heap.size, 0, none⟩) s.size cap, ?_, hstep, ?_, .add⟩
  · have hfz : q.forced = false := rfl
    simp only [Conv.stringToBytes, Sem.run_bind, run_choose]
    rw [show (Question.appendCap s.size 0 e).forced = false from rfl]
    simp only [Bool.false_eq_true, if_false, Result.andThen_ok, newRow, run_newObj, Sem.run_bind, Sem.run_pure, markStringish, run_shape]
    have hsh : (World.shape? { w with heap := w.heap.push (.cells C e (0, 0)), drawn := w.drawn + 1 } w.heap.size) = some (e, cap) := by
      simp [World.shape?, hC]
    have : World.shape? { heap := w.heap.push (Obj.cells ((s.data.map fun (b : UInt8) => Value.int .u8 b.toNat) ++ Array.replicate (cap - s.size) (Value.int .u8 0)) e), tape := w.tape, drawn := w.drawn + 1, os := w.os, output := w.output } w.heap.size = some (e, cap) := hsh
    erw [this]
    simp only [run_freeze, Result.andThen_ok]
    congr 1
    simp only [World.freeze]
    rw [if_neg (by omega)]
    show _ = ({ w with heap := w.heap.push (.cells C e (cap, cap + 1)), drawn := w.drawn + 1 } : World)
    congr 1
    apply Array.ext_getElem?
    intro k
    rw [Array.getElem?_modify, Array.getElem?_push, Array.getElem?_push]
    by_cases hk : k = w.heap.size
    · subst hk; simp; rfl
    · rw [if_neg (fun e => hk e.symm), if_neg hk, if_neg hk]
  · have := VRel.slBig (m := m.add n0 w.heap.size 0 C.size 1) n0 0 s.size cap Emb.add_dom hcap (by simp [hC])
    simpa using this
include hf hr in
theorem convert_ok (hS : Sim ng ro base w0 m A w) {s d : TypeId} {x x' v : Value} {A1 : AH} (hx : VRel m x x') (h : aConvert P n0 A s d x = some (v, A1)) :
    ∃ m' w' r, (convert s d x').run P w = .ok r w' ∧ Step ng ro base w0 m A w m' A1 w' ∧ VRel m' v r ∧ DomOk m m' n0 := by
  unfold aConvert at h
  split at h
  · rename_i k k' q n h1 h2
    cases h
    obtain rfl := hx.int_l
    exact ⟨m, w, _, by simp [convert, run_und (tKind_int h1), run_und (tKind_int h2), Conv.intToInt], .refl hS, .int _ _, .refl⟩
  · rename_i q h1 h2
    cases h
    obtain rfl := hx.str_l
    exact ⟨m, w, _, by simp [convert, run_und (tKind_str h1), run_und (tKind_str h2)], .refl hS, .string _, .refl⟩
  · rename_i q h1 h2
    split at h
    · rename_i hb
      cases h
      obtain rfl := hx.str_l
      obtain ⟨e, hu, he⟩ := tBytes_und hb
      obtain ⟨m', w', r, h3, h4, h5⟩ := stringToBytes_ok hf hr (P := P) hS e q
      exact ⟨m', w', r, by simp [convert, run_und (tKind_str h1), run_und hu, run_und he, h3], h4, h5⟩
    · cases h
  · rename_i q c h1 h2
    split at h
    · rename_i hb
      cases h
      obtain ⟨e, hu, he⟩ := tBytes_und hb
      cases hx
      exact ⟨m, w, _, by rw [run_convert_bytes_string w s d e none 0 0 hu he (tKind_str h2)]; simp [Conv.bytesToString], .refl hS, .string _, .refl⟩
    · cases h
  · rename_i a n c h1 h2
    split at h
    · rename_i hb
      obtain ⟨e, hu, he⟩ := tBytes_und hb
      split at h
      · rename_i hn
        subst hn
        cases h
        have key : ∀ (a' : Addr) (c' : Nat), (convert s d (.slice (some a') 0 c')).run P w = .ok (.string .empty) w := by
          intro a' c'
          rw [run_convert_bytes_string w s d e (some a') 0 c' hu he (tKind_str h2)]
          have := run_bytesToString (P := P) w a' 0 c' [] rfl
          simpa using this
        cases hx <;> exact ⟨m, w, _, key _ _, .refl hS, .string _, .refl⟩
      · rename_i hn
        split at h
        · rename_i cs hcs
          obtain ⟨l, hl, hv⟩ := Option.map_eq_some_iff.1 h
          cases hv
          have key : ∀ (b o c' : Nat), a = ⟨b, o, none⟩ → (convert s d (.slice (some ⟨m.r b, m.s b + o, none⟩) n c')).run P w = .ok (.string ⟨l.toArray⟩) w := by
            rintro b o c' rfl
            obtain ⟨_, cs', g1, g2, _⟩ := row_ok (P := P) hS hcs
            obtain ⟨ns, rfl, rfl⟩ := strOf_ints g2 hl
            rw [run_convert_bytes_string w s d e _ n c' hu he (tKind_str h2), run_bytesToString (P := P) w _ n c' ns (g1 w rfl), foldl_push]
            simp
          cases hx with
          | slEmpty p p' c hc hd0 => exact absurd rfl hn
          | slExact b o n c hd hc hn' => exact ⟨m, w, _, key b o _ rfl, .refl hS, .string _, .refl⟩
          | slBig b o n c hd hn' hk => exact ⟨m, w, _, key b o _ rfl, .refl hS, .string _, .refl⟩
        · cases h
    · cases h
  · cases h
end
end Go.AM
