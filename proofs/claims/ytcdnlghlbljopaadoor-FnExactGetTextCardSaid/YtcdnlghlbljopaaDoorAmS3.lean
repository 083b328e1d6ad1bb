/- Soundness of the abstract machine, third part: operations that compute values alone. -/
import Derived.Test.YtcdnlghlbljopaaDoorAmS2
import Derived.Laws.Small
namespace Go.AM
open Go Go.RowKit
def EnvRel (m : Emb) (e : Env) (tmps : Array Value) : Prop := ∀ t, VRel m (e t) (tmps.getD t undef)
theorem EnvRel.mono {m m' : Emb} (hm : m.Le m') {e : Env} {tmps : Array Value} (h : EnvRel m e tmps) : EnvRel m' e tmps := fun t => (h t).mono hm
theorem EnvRel.put {m : Emb} {e : Env} {a : Act} {d : Option Nat} {v v' : Value} (h : EnvRel m e a.tmps) (hv : VRel m v v') (hd : ∀ x, d = some x → x < a.tmps.size) : EnvRel m (e.put d v) (a.put d v').tmps := by
  intro t
  cases d with
  | none => simpa [Env.put, Act.put] using h t
  | some x =>
    simp only [Env.put, Act.put, Option.some.injEq]
    by_cases hx : x = t
    · subst hx
      have := hd x rfl
      simpa [Array.getD_eq_getD_getElem?, Array.getElem?_setIfInBounds, this] using hv
    · rw [if_neg hx]
      have := h t
      simpa [Array.getD_eq_getD_getElem?, Array.getElem?_setIfInBounds, hx] using this
section
variable {P : Program} {ng ro base : Nat} {w0 : World} {m : Emb} {A : AH} {w : World} {e : Env} {a : Act}
theorem EnvRel.eval (h : EnvRel m e a.tmps) (hS : Sim ng ro base w0 m A w) {x : Operand} (hx : opdOk ng x = true) : VRel m (e.eval x) (a.eval x) := by
  cases x with
  | tmp t => exact h t
  | const v => exact VRel.ground1 m hx
  | global g =>
    obtain ⟨h1, h2, h3⟩ := hS.glob g (by simpa [opdOk] using hx)
    have := VRel.ptr (m := m) g 0 h1
    simpa [Env.eval, Act.eval, h2, h3] using this
  | func f => exact .func _ _ _ _ _ .nil .nil
/-! What types say. -/
theorem run_und {t : TypeId} {d : TypeDesc} (h : P.underlying t = some d) (w : World) : (underlying t).run P w = .ok d w := by simp [underlying, h]
/-- What a type is of which the kind is told. -/
def Kind.fits : Kind → TypeDesc → Prop
  | .int q, d => d = .int q
  | .str, d => d = .string
  | .bool, d => d = .bool
  | .ptr, d => ∃ x, d = .pointer x
  | .slice, d => ∃ x, d = .slice x
  | .map, d => ∃ x y, d = .map x y
  | .func, d => ∃ x y z, d = .func x y z
  | .iface, d => ∃ x, d = .interface x
  | .struct, d => ∃ x, d = .struct x
  | .other, _ => True
theorem tKind_und {t : TypeId} {k : Kind} (h : tKind P t = some k) : ∃ d, P.underlying t = some d ∧ k.fits d := by
  unfold tKind at h
  cases hu : P.underlying t with
  | none => rw [hu] at h; cases h
  | some d =>
    rw [hu] at h
    refine ⟨d, rfl, ?_⟩
    cases d <;> simp at h <;> subst h <;> simp [Kind.fits]
theorem tKind_str {t : TypeId} (h : tKind P t = some .str) : P.underlying t = some .string := by obtain ⟨d, h1, rfl⟩ := tKind_und h; exact h1
theorem tKind_int {t : TypeId} {k : IntKind} (h : tKind P t = some (.int k)) : P.underlying t = some (.int k) := by obtain ⟨d, h1, rfl⟩ := tKind_und h; exact h1
theorem tKind_bool {t : TypeId} (h : tKind P t = some .bool) : P.underlying t = some .bool := by obtain ⟨d, h1, rfl⟩ := tKind_und h; exact h1
theorem tKind_slice {t : TypeId} (h : tKind P t = some .slice) : ∃ x, P.underlying t = some (.slice x) := by obtain ⟨d, h1, x, rfl⟩ := tKind_und h; exact ⟨x, h1⟩
theorem tKind_ptr {t : TypeId} (h : tKind P t = some .ptr) : ∃ x, P.underlying t = some (.pointer x) := by obtain ⟨d, h1, x, rfl⟩ := tKind_und h; exact ⟨x, h1⟩
theorem tKind_map {t : TypeId} (h : tKind P t = some .map) : ∃ x y, P.underlying t = some (.map x y) := by obtain ⟨d, h1, x, y, rfl⟩ := tKind_und h; exact ⟨x, y, h1⟩
theorem tKind_func {t : TypeId} (h : tKind P t = some .func) : ∃ x y z, P.underlying t = some (.func x y z) := by obtain ⟨d, h1, x, y, z, rfl⟩ := tKind_und h; exact ⟨x, y, z, h1⟩
theorem tKind_iface {t : TypeId} (h : tKind P t = some .iface) : ∃ x, P.underlying t = some (.interface x) := by obtain ⟨d, h1, x, rfl⟩ := tKind_und h; exact ⟨x, h1⟩
theorem tKind_struct {t : TypeId} (h : tKind P t = some .struct) : ∃ x, P.underlying t = some (.struct x) := by obtain ⟨d, h1, x, rfl⟩ := tKind_und h; exact ⟨x, h1⟩
theorem run_size {t : TypeId} {n : Nat} (h : tSize P t = some n) (w : World) : (sizeOf t).run P w = .ok n w := by
  unfold tSize at h
  cases hi : P.info? t with
  | none => rw [hi] at h; cases h
  | some i => rw [hi] at h; cases h; simp [sizeOf, typeInfo, hi]
theorem run_zero {t : TypeId} {z : Value} (h : tZero P t = some z) (w : World) : (zeroValue t).run P w = .ok z w ∧ ground z = true := by
  unfold tZero at h
  cases hi : P.info? t with
  | none => rw [hi] at h; cases h
  | some i =>
    rw [hi] at h
    simp only [Option.bind_some] at h
    cases hz : i.zero with
    | none => rw [hz] at h; cases h
    | some z' =>
      rw [hz] at h
      simp only at h
      split at h
      · cases h; exact ⟨by simp [zeroValue, typeInfo, hi, hz], ‹_›⟩
      · cases h
theorem run_agg {t : TypeId} {b : Bool} (h : tAgg P t = some b) (w : World) : (isAgg t).run P w = .ok b w := by
  unfold tAgg at h
  cases hu : P.underlying t with
  | none => rw [hu] at h; cases h
  | some d =>
    rw [hu] at h
    cases d <;> simp at h <;> subst h <;> simp [isAgg, run_und hu]
theorem tElem_und {t el : TypeId} (h : tElem P t = some el) : P.underlying t = some (.slice el) := by
  unfold tElem at h
  split at h
  · cases h; assumption
  · cases h
theorem tElemSize_z {t : TypeId} {n : Nat} (h : tElemSize P t = some n) : ∃ el i z, tElem P t = some el ∧ P.underlying t = some (.slice el) ∧ P.info? el = some i ∧ i.size = n ∧ i.bytes ≤ 4096 ∧
    (tZero P el).bind acells = some z ∧ z.length = n := by
  unfold tElemSize at h
  split at h
  · rename_i el he
    split at h
    · rename_i i z hi hz
      split at h
      · rename_i hle; cases h; exact ⟨el, i, z, he, tElem_und he, hi, rfl, hle.1, hz, hle.2⟩
      · cases h
    · cases h
  · cases h
theorem tElemSize_und {t : TypeId} {n : Nat} (h : tElemSize P t = some n) : ∃ el i, tElem P t = some el ∧ P.underlying t = some (.slice el) ∧ P.info? el = some i ∧ i.size = n ∧ i.bytes ≤ 4096 := by
  obtain ⟨el, i, _, h1, h2, h3, h4, h5, _⟩ := tElemSize_z h
  exact ⟨el, i, h1, h2, h3, h4, h5⟩
theorem run_sizeI {t : TypeId} {i : TypeInfo} (h : P.info? t = some i) (w : World) : (sizeOf t).run P w = .ok i.size w := by simp [sizeOf, typeInfo, h]
theorem run_infoI {t : TypeId} {i : TypeInfo} (h : P.info? t = some i) (w : World) : (typeInfo t).run P w = .ok i w := by simp [typeInfo, h]
theorem tArray_und {t : TypeId} {n : Nat} {el : TypeId} {s : Nat} (h : tArray P t = some (n, el, s)) : P.underlying t = some (.array n el) ∧ tSize P el = some s := by
  unfold tArray at h
  split at h
  · rename_i n' el' hu
    cases hs : tSize P el' with
    | none => rw [hs] at h; cases h
    | some s' => rw [hs] at h; cases h; exact ⟨hu, hs⟩
  · cases h
theorem tField_und {t : TypeId} {f off : Nat} {ft : TypeId} (h : tField P t f = some (off, ft)) : ∃ fs x, P.underlying t = some (.struct fs) ∧ fs[f]? = some x ∧ x.offset = off ∧ x.type = ft ∧ ∃ n, tSize P ft = some n ∧ n ≠ 0 := by
  unfold tField at h
  split at h
  · rename_i fs hu
    split at h
    · rename_i x hx
      split at h
      · cases h
      · rename_i hn
        cases h
        refine ⟨fs, x, hu, hx, rfl, rfl, ?_⟩
        cases hs : tSize P x.type with
        | none => simp [hs] at hn
        | some n => exact ⟨n, rfl, by simpa [hs] using hn⟩
    · cases h
  · cases h
theorem ptr_add {b o n : Nat} : (⟨b, o, none⟩ : Addr).add n = ⟨b, o + n, none⟩ := by
  unfold Addr.add
  split
  · rename_i h; subst h; rfl
  · rfl
theorem VRel.ptr_add {a a' : Addr} (h : VRel m (.pointer (some a)) (.pointer (some a'))) (n : Nat) : VRel m (.pointer (some (a.add n))) (.pointer (some (a'.add n))) := by
  cases h with
  | ptr b o h => rw [AM.ptr_add, AM.ptr_add, Nat.add_assoc]; exact .ptr b (o + n) h
/-! Operators. -/
theorem VRel.int_l {k : IntKind} {n : Int} {v : Value} (h : VRel m (.int k n) v) : v = .int k n := by cases h; rfl
theorem VRel.str_l {s : ByteArray} {v : Value} (h : VRel m (.string s) v) : v = .string s := by cases h; rfl
theorem VRel.bool_l {b : Bool} {v : Value} (h : VRel m (.bool b) v) : v = .bool b := by cases h; rfl
theorem eqFields_ok (w : World) {xs ys xs' ys' : Array Value} (hx : VRels m xs.toList xs'.toList) (hy : VRels m ys.toList ys'.toList) :
    ∀ (l : List Field) (b : Bool), aEqFields P xs.toList ys.toList l = some b → (Op.eqFields 9999 xs' ys' l).run P w = .ok b w := by
  have at_ : ∀ {zs zs' : Array Value} (_ : VRels m zs.toList zs'.toList) (i : Nat) (v : Value), zs.toList[i]? = some v → ∃ v', zs'[i]? = some v' ∧ VRel m v v' := fun h i v hv => by
    simpa using h.get hv
  intro l
  induction l with
  | nil => intro b h; cases h; rfl
  | cons f fs ih =>
    intro b h
    unfold aEqFields at h
    split at h
    · cases h
    · rename_i hne
      have hne' : (f.name ≠ "_") := hne
      have part_ok : ∀ (t : TypeId) (zs : Array Value) (o : Nat) (v : Value) (d : TypeDesc), P.underlying t = some d → (∀ x, d ≠ .struct x) → (∀ x y, d ≠ .array x y) → zs[o]? = some v → (part t zs o).run P w = .ok v w := by
        intro t zs o v d hd h1 h2 hv
        have : (isAgg t).run P w = .ok false w := by
          cases d <;> first | exact absurd rfl (h1 _) | exact absurd rfl (h2 _ _) | simp [isAgg, run_und hd]
        simp [part, this, hv]
      split at h
      · rename_i q k a k' c hk hxa hya
        obtain ⟨u, hu, hu'⟩ := at_ hx _ _ hxa
        obtain ⟨v, hv, hv'⟩ := at_ hy _ _ hya
        obtain rfl := hu'.int_l
        obtain rfl := hv'.int_l
        have hd := tKind_int hk
        split at h
        · rename_i hkk
          subst hkk
          simp only [Op.eqFields, hne', if_true, ne_eq, not_false_eq_true, Sem.run_bind, part_ok _ _ _ _ _ hd (by simp) (by simp) hu, part_ok _ _ _ _ _ hd (by simp) (by simp) hv, Result.andThen_ok,
            run_equalIn_int (P := P) w 9998 f.type k q a c hd]
          split at h
          · rename_i he; subst he; simp [ih _ h]
          · rename_i he; cases h; simp [he]
        · cases h
      · rename_i a c hk hxa hya
        obtain ⟨u, hu, hu'⟩ := at_ hx _ _ hxa
        obtain ⟨v, hv, hv'⟩ := at_ hy _ _ hya
        obtain rfl := hu'.str_l
        obtain rfl := hv'.str_l
        have hd := tKind_str hk
        simp only [Op.eqFields, hne', if_true, ne_eq, not_false_eq_true, Sem.run_bind, part_ok _ _ _ _ _ hd (by simp) (by simp) hu, part_ok _ _ _ _ _ hd (by simp) (by simp) hv, Result.andThen_ok,
          run_equalIn_string (P := P) w 9998 f.type a c hd]
        split at h
        · rename_i he; simp [he, ih _ h]
        · rename_i he; cases h; simp [he]
      · rename_i a c hk hxa hya
        obtain ⟨u, hu, hu'⟩ := at_ hx _ _ hxa
        obtain ⟨v, hv, hv'⟩ := at_ hy _ _ hya
        obtain rfl := hu'.bool_l
        obtain rfl := hv'.bool_l
        have hd := tKind_bool hk
        simp only [Op.eqFields, hne', if_true, ne_eq, not_false_eq_true, Sem.run_bind, part_ok _ _ _ _ _ hd (by simp) (by simp) hu, part_ok _ _ _ _ _ hd (by simp) (by simp) hv, Result.andThen_ok,
          run_equalIn_bool' (P := P) w 9998 f.type a c hd]
        split at h
        · rename_i he; subst he; simp [ih _ h]
        · rename_i he; cases h; simp [he]
      · cases h
theorem aEq_ok (w : World) {op : BinOp} (hop : op = .eql ∨ op = .neq) {t : TypeId} {x y : Operand} {u v u' v' : Value} {b : Bool} (hu : VRel m u u') (hv : VRel m v v') (h : aEq P t u v = some b) :
    (eqGuard op t x y u' v').run P w = .ok () w ∧ (Op.equal t u' v').run P w = .ok b w := by
  suffices H : (eqGuard op t x y u' v').run P w = .ok () w ∧ (∀ d, d = 9999 → (Op.equalIn (d + 1) t u' v').run P w = .ok b w) from ⟨H.1, H.2 9999 rfl⟩
  have hg0 : ∀ {u' v' : Value}, (∀ xs ys, ¬ (u' = .agg xs ∧ v' = .agg ys)) → ¬ (u' = .nilIface ∧ v' = .nilIface) → (eqGuard op t x y u' v').run P w = .ok () w := by
    intro u' v' h1 h2
    unfold eqGuard
    rcases hop with rfl | rfl <;>
      (simp only [Bool.not_true, Bool.false_eq_true, if_false]
       split
       · exact absurd ⟨rfl, rfl⟩ h2
       · exact absurd ⟨rfl, rfl⟩ (h1 _ _)
       · rfl)
  unfold aEq at h
  split at h
  · rename_i a c hk
    cases h
    obtain rfl := hu.bool_l
    obtain rfl := hv.bool_l
    exact ⟨hg0 (by simp) (by simp), fun d _ => by simp [Op.equalIn, run_und (tKind_bool hk)]⟩
  · rename_i c hk
    cases h
    obtain ⟨d, hd⟩ := tKind_ptr hk
    cases hu
    refine ⟨hg0 (by simp) (by simp), fun d _ => ?_⟩
    cases hv <;> simp [Op.equalIn, run_und hd]
  · rename_i c hk
    cases h
    obtain ⟨d, hd⟩ := tKind_ptr hk
    cases hv
    refine ⟨hg0 (by simp) (by simp), fun d _ => ?_⟩
    cases hu <;> simp [Op.equalIn, run_und hd]
  · rename_i c hk
    cases h
    obtain ⟨d, hd⟩ := tKind_slice hk
    cases hu
    refine ⟨hg0 (by simp) (by simp), fun d _ => ?_⟩
    cases hv <;> simp [Op.equalIn, run_und hd]
  · rename_i c hk
    cases h
    obtain ⟨d, hd⟩ := tKind_slice hk
    cases hv
    refine ⟨hg0 (by simp) (by simp), fun d _ => ?_⟩
    cases hu <;> simp [Op.equalIn, run_und hd]
  · rename_i c hk
    cases h
    obtain ⟨d, d', hd⟩ := tKind_map hk
    cases hu
    refine ⟨hg0 (by simp) (by simp), fun d _ => ?_⟩
    cases hv <;> simp [Op.equalIn, run_und hd]
  · rename_i c hk
    cases h
    obtain ⟨d, d', hd⟩ := tKind_map hk
    cases hv
    refine ⟨hg0 (by simp) (by simp), fun d _ => ?_⟩
    cases hu <;> simp [Op.equalIn, run_und hd]
  · rename_i hk
    cases h
    obtain ⟨d, d', d'', hd⟩ := tKind_func hk
    cases hu; cases hv
    exact ⟨hg0 (by simp) (by simp), fun d _ => by simp [Op.equalIn, run_und hd]⟩
  · rename_i hk
    cases h
    obtain ⟨d, d', d'', hd⟩ := tKind_func hk
    cases hu; cases hv
    exact ⟨hg0 (by simp) (by simp), fun d _ => by simp [Op.equalIn, run_und hd]⟩
  · rename_i hk
    cases h
    obtain ⟨d, d', d'', hd⟩ := tKind_func hk
    cases hu; cases hv
    exact ⟨hg0 (by simp) (by simp), fun d _ => by simp [Op.equalIn, run_und hd]⟩
  · rename_i hk
    cases h
    obtain ⟨d, hd⟩ := tKind_iface hk
    cases hu; cases hv
    exact ⟨hg0 (by simp) (by simp), fun d _ => by simp [Op.equalIn, run_und hd]⟩
  · rename_i hk
    cases h
    obtain ⟨d, hd⟩ := tKind_iface hk
    cases hu; cases hv
    exact ⟨hg0 (by simp) (by simp), fun d _ => by simp [Op.equalIn, run_und hd]⟩
  · rename_i xs ys hk
    cases hu with
    | agg _ xs' hx _ =>
    cases hv with
    | agg _ ys' hy _ =>
    obtain ⟨fs, hd⟩ := tKind_struct hk
    rw [hd] at h
    simp only at h
    split at h
    · cases h
    · rename_i hst
      obtain ⟨hst, hg⟩ : P.stoodInHeld t = false ∧ P.eqGuardType P.depth t = false := by
        rw [Bool.or_eq_true, not_or] at hst
        exact ⟨by simpa using hst.1, by simpa using hst.2⟩
      have hfo : P.fieldsOf t = fs := by simp [Program.fieldsOf, hd]
      refine ⟨run_eqGuard_agg w op t x y xs' ys' hg, ?_⟩
      rintro d rfl
      rw [run_equalIn_struct (P := P) w 9999 t xs' ys' (by rw [hfo]; exact hd) hst, hfo]
      exact eqFields_ok w hx hy _ _ h
  · cases h
theorem aInt_ok (w : World) {op : BinOp} {k : IntKind} {x y : Int} {r : Value} (h : aInt op k x y = some r) (h1 : op ≠ .shl) (h2 : op ≠ .shr) (t : TypeId) :
    (binOp op t (.int k x) (.int k y)).run P w = .ok r w ∧ VRel m r r := by
  unfold aInt at h
  cases op <;> simp only [Option.some.injEq] at h <;> first
    | (cases h; done)
    | exact absurd rfl h1
    | exact absurd rfl h2
    | (subst h; exact ⟨by simp [binOp, Op.intArith, Op.intCmp, Op.intBits], by constructor⟩)
    | (split at h
       · cases h
       · rename_i hz; cases h; exact ⟨by simp [binOp, Op.intDiv, hz], by constructor⟩)
theorem aStr_ok (w : World) {op : BinOp} {x y : ByteArray} {r : Value} (h : aStr op x y = some r) (t : TypeId) :
    (binOp op t (.string x) (.string y)).run P w = .ok r w ∧ VRel m r r := by
  unfold aStr at h
  cases op <;> simp only [Option.some.injEq] at h <;> first
    | (cases h; done)
    | (subst h; exact ⟨by simp [binOp, Op.stringOp], by constructor⟩)
    | (split at h
       · rename_i hz
         cases h
         refine ⟨?_, by constructor⟩
         simp only [binOp, Op.stringOp, Sem.run_ite]
         rw [if_neg (by simp only [IntKind.max, IntKind.bits, IntKind.signed, if_true]; unfold BIG at hz; omega)]
         rfl
       · cases h)
theorem eqGuard_int (w : World) (op : BinOp) (t : TypeId) (x y : Operand) (k k' : IntKind) (a b : Int) : (eqGuard op t x y (.int k a) (.int k' b)).run P w = .ok () w := by
  unfold eqGuard
  cases op <;> rfl
theorem eqGuard_str (w : World) (op : BinOp) (t : TypeId) (x y : Operand) (a b : ByteArray) : (eqGuard op t x y (.string a) (.string b)).run P w = .ok () w := by
  unfold eqGuard
  cases op <;> rfl
theorem binOp_eql_else {t : TypeId} {u v : Value} (h1 : ∀ k a k' b, ¬ (u = .int k a ∧ v = .int k' b)) (h2 : ∀ a b, ¬ (u = .string a ∧ v = .string b))
    (h3 : ∀ k a k' b, ¬ (u = .float k a ∧ v = .float k' b)) (h4 : ∀ k a b k' c d, ¬ (u = .complex k a b ∧ v = .complex k' c d)) :
    binOp .eql t u v = (do pure (.bool (← Op.equal t u v))) ∧ binOp .neq t u v = (do pure (.bool (!(← Op.equal t u v)))) := by
  cases u <;> cases v <;> first
    | exact ⟨rfl, rfl⟩
    | exact absurd ⟨rfl, rfl⟩ (h1 _ _ _ _)
    | exact absurd ⟨rfl, rfl⟩ (h2 _ _)
    | exact absurd ⟨rfl, rfl⟩ (h3 _ _ _ _)
    | exact absurd ⟨rfl, rfl⟩ (h4 _ _ _ _ _ _)
theorem binOp_ok (w : World) {op : BinOp} {t : TypeId} {x y : Operand} {u v u' v' r : Value} (hu : VRel m u u') (hv : VRel m v v') (h : aBin P op t u v = some r) :
    ∃ r', (do eqGuard op t x y u' v'; binOp op t u' v' : Sem Value).run P w = .ok r' w ∧ VRel m r r' := by
  unfold aBin at h
  split at h
  · rename_i k a k' c
    obtain rfl := hu.int_l
    obtain rfl := hv.int_l
    rw [Sem.run_bind, eqGuard_int, Result.andThen_ok]
    split at h
    · split at h
      · cases h
      · rename_i hz; cases h; exact ⟨_, by simp [binOp, Op.shift, hz]; rfl, by constructor⟩
    · split at h
      · cases h
      · rename_i hz; cases h; exact ⟨_, by simp [binOp, Op.shift, hz]; rfl, by constructor⟩
    · rename_i h1 h2
      split at h
      · rename_i hk; subst hk
        obtain ⟨h3, h4⟩ := aInt_ok (P := P) (m := m) w h (fun e => h1 e) (fun e => h2 e) t
        exact ⟨_, h3, h4⟩
      · cases h
  · rename_i a c
    obtain rfl := hu.str_l
    obtain rfl := hv.str_l
    rw [Sem.run_bind, eqGuard_str, Result.andThen_ok]
    obtain ⟨h3, h4⟩ := aStr_ok (P := P) (m := m) w h t
    exact ⟨_, h3, h4⟩
  · rename_i hni hns
    have hne : binOp .eql t u' v' = (do pure (.bool (← Op.equal t u' v'))) ∧ binOp .neq t u' v' = (do pure (.bool (!(← Op.equal t u' v')))) := by
      refine binOp_eql_else ?_ ?_ ?_ ?_
      · rintro k a k' b ⟨rfl, rfl⟩
        cases hu; cases hv; exact hni _ _ _ _ rfl rfl
      · rintro a b ⟨rfl, rfl⟩
        cases hu; cases hv; exact hns _ _ rfl rfl
      · rintro k a k' b ⟨rfl, rfl⟩
        cases hu
      · rintro k a b k' c d ⟨rfl, rfl⟩
        cases hu
    split at h
    · obtain ⟨b, hb, rfl⟩ := Option.map_eq_some_iff.1 h
      obtain ⟨h1, h2⟩ := aEq_ok (P := P) w (.inl rfl) (x := x) (y := y) hu hv hb
      exact ⟨.bool b, by rw [Sem.run_bind, h1, Result.andThen_ok, hne.1]; simp [h2], .bool b⟩
    · obtain ⟨b, hb, rfl⟩ := Option.map_eq_some_iff.1 h
      obtain ⟨h1, h2⟩ := aEq_ok (P := P) w (.inr rfl) (x := x) (y := y) hu hv hb
      exact ⟨.bool (!b), by rw [Sem.run_bind, h1, Result.andThen_ok, hne.2]; simp [h2], .bool _⟩
    · cases h
end
end Go.AM
