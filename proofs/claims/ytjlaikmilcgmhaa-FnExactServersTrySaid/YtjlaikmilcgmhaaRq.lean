/- Blocks and readers behind stores into a block of one's own. -/
import Derived.Test.YtjlaikmilcgmhaaRd
namespace Go.Proofs.Ytjlaikmilcgmhaa
open Go.RowKit
set_option linter.unusedVariables false

theorem Blk.set {w : World} {b : Nat} {cs : Array Value} {T : TypeId} (h : Blk w b cs T) (k : Nat) (v : Value) : Blk (w.setCell ⟨b, k, none⟩ v) b (cs.setIfInBounds k v) T := by
  have hlt := h.lt
  unfold Blk at h
  have h' : w.heap[b] = .cells cs T (0, 0) := by simpa [Array.getElem?_eq_getElem hlt] using h
  show (w.heap.modify b _)[b]? = _
  rw [Array.getElem?_eq_getElem (by simpa using hlt), Array.getElem_modify_self, h']
  rfl
theorem Blk.other {w : World} {b b' : Nat} {cs : Array Value} {T : TypeId} (h : Blk w b cs T) (hb : b ≠ b') (k : Nat) (v : Value) : Blk (w.setCell ⟨b', k, none⟩ v) b cs T :=
  (Below.heap_setCell w _ v b (by simpa using hb)).trans h
theorem Lo.set {bk b : Nat} {a w : World} (h : Lo bk a w) (hb : a.heap.size ≤ b) (k : Nat) (v : Value) : Lo bk a (w.setCell ⟨b, k, none⟩ v) :=
  ⟨h.os, h.tape, h.output, by simpa [World.setCell] using h.size, fun i hi hk => (Below.heap_setCell w _ v i (by simp; omega)).trans (h.block i hi hk)⟩
theorem RS.set {bk b p : Nat} {a w : World} (h : RS a bk p w) (hb : a.heap.size ≤ b) (hk : bk < b) (k : Nat) (v : Value) : RS a bk p (w.setCell ⟨b, k, none⟩ v) :=
  ⟨h.1.keep (fun i hi => Below.heap_setCell w _ v i (by simp; omega)) (by simp [World.setCell]), h.2.set hb k v⟩

end Go.Proofs.Ytjlaikmilcgmhaa
