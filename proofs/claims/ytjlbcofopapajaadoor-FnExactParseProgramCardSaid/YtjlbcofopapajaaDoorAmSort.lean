import Derived.Test.YtjlbcofopapajaaDoorAmSD
import Derived.Test.YtjlbcofopapajaaDoorAmTX
import Derived.Shelf.GgSortFunc.InsertionK
import Derived.Shelf.SlSortFuncK.WholeK
import Derived.Shelf.GgSortFunc.Tiny
namespace Go.AM
open Go Go.RowKit
set_option linter.all false
abbrev El := ByteArray × {v : Value // v.oneCell' = true}
instance : Inhabited El := ⟨(.empty, ⟨.bool false, rfl⟩)⟩
def flatE : List (ByteArray × Value) → List Value
 | [] => []
 | x :: l => .string x.1 :: x.2 :: flatE l
section
variable {ng ro base : Nat} {w0 : World} {m : Emb} {A : AH} {w : World}
theorem Step.junk {w' : World} (h : Sim ng ro base w0 m A w) (ho : w'.os = w.os) (ht : w'.tape = w.tape) (hu : w'.output = w.output) (hs : w.heap.size ≤ w'.heap.size) (hk : ∀ k, k < w.heap.size → w'.heap[k]? = w.heap[k]?) :
 Step ng ro base w0 m A w m A w' := by
 refine ⟨.refl m, ?_, Nat.le_refl _, hs, fun r hr _ => hk r hr, fun b hb => .inl ⟨b, hb, rfl⟩⟩
 refine ⟨h.glob, h.dlt, fun b c e hb => ?_, fun b es hb => ?_, h.rw, h.inj, h.lo, Nat.le_trans h.bl hs, h.rl, h.old.trans ⟨ho, ht, hu, hs, fun k hk' => hk k (Nat.lt_of_lt_of_le hk' h.bl)⟩⟩
 ·obtain ⟨h1, c', el, fz, h2, h3⟩ := h.cells b c e hb
  exact ⟨h1, c', el, fz, (hk _ (h.lt (by rw [hb]; simp))).trans h2, h3⟩
 ·obtain ⟨h1, es', cl, h2, h3⟩ := h.maps b es hb
  exact ⟨h1, es', cl, (hk _ (h.lt (by rw [hb]; simp))).trans h2, h3⟩
end
inductive SortX (fS : FuncId) (T : List (TypeId × FuncId × Nat)) (ro : Nat) (f : FuncId) (args : List Value) (A : AH) : ARes → AH → Prop
 | mk {t g k b o n c p e ep : Nat} {cs cp : List Value} {L L' : List (ByteArray × Value)} (hf : f = fS) (hT : (t, g, k) ∈ T) (ha : args = [.iface t (.slice (some ⟨b, o, none⟩) n c), .func (.func g) #[] #[.pointer (some ⟨p, 0, none⟩)]])
  (hp : A.get p = .cells cp ep) (hk : cp[k]? = some (.slice (some ⟨b, o, none⟩) n c)) (hne : b ≠ p) (hrb : ro ≤ b) (hrp : ro ≤ p) (hb : A.get b = .cells cs e) (hl : o + 2 * n ≤ cs.length) (hL : (cs.drop o).take (2 * n) = flatE L) (hn : L.length = n)
  (h1 : 1 ≤ n) (hlim : n < 4294967296) (hperm : L'.Perm L) (hs : L'.Pairwise fun x y => slt x.1 y.1) : SortX fS T ro f args A (.ret (.tuple #[])) (A.put b (.cells (setCells cs o (flatE L')) e))
end Go.AM
namespace Go.AM
open Go Go.RowKit Go.Shelf Go.Proofs
set_option linter.all false
end Go.AM
