/- Rows of one's own. -/
import Derived.Test.YtghljfddgcclpaaGo
import Derived.OwnWalk
import Derived.Deep.RegionLaw
namespace Go.Proofs.Ytghljfddgcclpaa
open Go.RowKit
set_option linter.unusedVariables false

theorem row_form {w : World} {base k n : Nat} {e : TypeId} {v : Value} {xs : List Value} (h : w.ownsRow base e k v n xs) : ∃ a cap, v = .slice a n cap := by
  obtain ⟨_, h | ⟨g, cap, cur, h, _⟩⟩ := h
  · obtain ⟨rfl, rfl⟩ := h; exact ⟨_, _, rfl⟩
  · exact ⟨_, _, h⟩
theorem row_set {w : World} {base k n b j : Nat} {e : TypeId} {v u : Value} {xs : List Value} (h : w.ownsRow base e k v n xs) (hb : b < base) : (w.setCell ⟨b, j, none⟩ u).ownsRow base e k v n xs := by
  obtain ⟨hl, h | ⟨g, cap, cur, h, hg, hc, h'⟩⟩ := h
  · exact ⟨hl, .inl h⟩
  · exact ⟨hl, .inr ⟨g, cap, cur, h, hg, (Below.heap_setCell w _ u g (by simp; omega)).trans hc, h'⟩⟩
theorem row_below {w w' : World} {base k n : Nat} {e : TypeId} {v : Value} {xs : List Value} (h : w.ownsRow base e k v n xs) (hb : Below w.heap.size w w') : w'.ownsRow base e k v n xs := by
  obtain ⟨hl, h | ⟨g, cap, cur, h, hg, hc, h'⟩⟩ := h
  · exact ⟨hl, .inl h⟩
  · exact ⟨hl, .inr ⟨g, cap, cur, h, hg, (hb.block g (Blk.lt hc)).trans hc, h'⟩⟩
theorem chg_grown {w w' : World} {base k n : Nat} {e : TypeId} {v : Value} {xs : List Value} (h : w.ownsRow base e k v n xs) (hg : w.grownBy w' v.ownBlock) : Chg base w.heap.size w w' := by
  refine ⟨hg.os, hg.tape, hg.output, hg.size, fun i hi hn => hg.block i hi ?_⟩
  intro e
  have := h.lt i e.symm
  omega
theorem Blk.grown {w w' : World} {b : Nat} {cs : Array Value} {T : TypeId} {row : Option Nat} (h : Blk w b cs T) (hg : w.grownBy w' row) (hne : row ≠ some b) : Blk w' b cs T :=
  (hg.block b h.lt (Ne.symm hne)).trans h
theorem row_other {w : World} {base k n b j g cap : Nat} {e : TypeId} {u : Value} {xs : List Value} (h : w.ownsRow base e k (.slice (some ⟨g, 0, none⟩) n cap) n xs) (hb : g ≠ b) : (w.setCell ⟨b, j, none⟩ u).ownsRow base e k (.slice (some ⟨g, 0, none⟩) n cap) n xs := by
  obtain ⟨hl, ⟨h, _⟩ | ⟨g', cap', cur, h, hg, hc, h'⟩⟩ := h
  · cases h
  · have h0 := h
    simp only [Value.slice.injEq, Option.some.injEq, Addr.mk.injEq] at h0
    exact ⟨hl, .inr ⟨g', cap', cur, h, hg, (Below.heap_setCell w _ u g' (by simp; omega)).trans hc, h'⟩⟩
theorem gb_refl (w : World) (r : Option Nat) : w.grownBy w r := ⟨rfl, rfl, rfl, Nat.le_refl _, fun _ _ _ => rfl⟩
theorem gb_drew {a w : World} {r : Option Nat} (h : a.grownBy w r) : a.grownBy w.drew r := ⟨h.os, h.tape, h.output, h.size, h.block⟩
theorem gb_alloc {a w : World} {r : Option Nat} (h : a.grownBy w r) (o : Obj) : a.grownBy (w.alloc o) r :=
  ⟨h.os, h.tape, h.output, Nat.le_trans h.size (by simp), fun i hi hn => (Below.heap_alloc w o i (Nat.lt_of_lt_of_le hi h.size)).trans (h.block i hi hn)⟩
theorem row_mono {w : World} {base B' k n : Nat} {e : TypeId} {v : Value} {xs : List Value} (h : w.ownsRow base e k v n xs) (hB : B' ≤ base) : w.ownsRow B' e k v n xs := by
  obtain ⟨hl, h | ⟨g, cap, cur, h, hg, h'⟩⟩ := h
  · exact ⟨hl, .inl h⟩
  · exact ⟨hl, .inr ⟨g, cap, cur, h, by omega, h'⟩⟩
theorem row_ne {w : World} {base k n cap b : Nat} {e T : TypeId} {a : Option Addr} {xs : List Value} {cs : Array Value} (h : w.ownsRow base e k (.slice a n cap) n xs) (hb : Blk w b cs T) (hT : e ≠ T) : (Value.slice a n cap).ownBlock ≠ some b := by
  obtain ⟨_, ⟨h0, _⟩ | ⟨g, cap', cur, hv, _, hg, _⟩⟩ := h
  · rw [h0]; simp [Value.ownBlock]
  · rw [hv]
    simp only [Value.ownBlock, ne_eq, Option.some.injEq]
    rintro rfl
    unfold Blk at hb
    rw [hg] at hb
    simp only [Option.some.injEq, Obj.cells.injEq] at hb
    exact hT hb.2.1
theorem row_sets {w : World} {base k n cap b j : Nat} {e : TypeId} {a : Option Addr} {u : Value} {xs : List Value} (h : w.ownsRow base e k (.slice a n cap) n xs) (hne : (Value.slice a n cap).ownBlock ≠ some b) : (w.setCell ⟨b, j, none⟩ u).ownsRow base e k (.slice a n cap) n xs := by
  obtain ⟨hl, ⟨h, h0⟩ | ⟨g, cap', cur, h, hg, hc, h'⟩⟩ := h
  · exact ⟨hl, .inl ⟨h, h0⟩⟩
  · refine ⟨hl, .inr ⟨g, cap', cur, h, hg, (Below.heap_setCell w _ u g ?_).trans hc, h'⟩⟩
    rw [h] at hne
    simp only [Value.ownBlock, ne_eq, Option.some.injEq] at hne
    exact hne
theorem row_cap {w : World} {base k n cap : Nat} {e : TypeId} {a : Option Addr} {xs : List Value} (h : w.ownsRow base e k (.slice a n cap) n xs) : n ≤ cap := by
  obtain ⟨_, ⟨h, h0⟩ | ⟨g, cap', cur, h, hg, hc, h', _⟩⟩ := h
  · simp only [Value.slice.injEq] at h; omega
  · simp only [Value.slice.injEq] at h; omega
theorem row_lo {w w' : World} {base k n bk : Nat} {e : TypeId} {v : Value} {xs : List Value} (h : w.ownsRow base e k v n xs) (hl : Lo bk w w') (hb : bk < base) : w'.ownsRow base e k v n xs := by
  obtain ⟨hl', h | ⟨g, cap, cur, h, hg, hc, h'⟩⟩ := h
  · exact ⟨hl', .inl h⟩
  · exact ⟨hl', .inr ⟨g, cap, cur, h, hg, (hl.block g (Blk.lt hc) (by omega)).trans hc, h'⟩⟩
theorem RS.old {a w w' : World} {bk p : Nat} (h : RS a bk p w) (hb : Below a.heap.size w w') (hk : bk < a.heap.size) : RS a bk p w' :=
  ⟨h.1.below hb hk, ⟨hb.os.trans h.2.os, hb.tape.trans h.2.tape, hb.output.trans h.2.output, Nat.le_trans h.2.size hb.size, fun i hi hne => (hb.block i hi).trans (h.2.block i hi hne)⟩⟩
end Go.Proofs.Ytghljfddgcclpaa
