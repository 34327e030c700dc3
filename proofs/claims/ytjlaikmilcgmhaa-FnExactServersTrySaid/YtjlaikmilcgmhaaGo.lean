/- Slices of one's own, known whole; worlds in which only some blocks have turned. -/
import Derived.Test.YtjlaikmilcgmhaaSl
import Derived.Test.YtjlaikmilcgmhaaRq
namespace Go.Proofs.Ytjlaikmilcgmhaa
open Go.RowKit
set_option linter.unusedVariables false

/-- A slice of n structs of k cells each, which is empty or lies at the head of a block from B on that is known whole. -/
def Ow (k : Nat) (w : World) (B : Nat) (a : Option Addr) (n : Nat) (g : Nat → Nat → Value) : Prop :=
  n ≤ 9223372036854775807 ∧ (n = 0 ∨ ∃ (b : Nat) (cs : Array Value) (T : TypeId), a = some ⟨b, 0, none⟩ ∧ B ≤ b ∧ Blk w b cs T ∧ ∀ i, i < n → ∀ j, j < k → cs[i * k + j]? = some (g i j))
theorem Ow.sl {k n B : Nat} {w : World} {a : Option Addr} {g : Nat → Nat → Value} (h : Ow k w B a n g) : Sl k w w.heap.size a n g := by
  refine ⟨h.1, ?_⟩
  rcases h.2 with h0 | ⟨b, cs, T, e, hB, hb, hc⟩
  · exact .inl h0
  · exact .inr ⟨b, 0, e, hb.lt, fun i hi j hj => by rw [Nat.zero_add]; exact hb.cell _ (hc i hi j hj)⟩
theorem Ow.mono {k n B B' : Nat} {w : World} {a : Option Addr} {g : Nat → Nat → Value} (h : Ow k w B a n g) (hB : B' ≤ B) : Ow k w B' a n g := by
  refine ⟨h.1, ?_⟩
  rcases h.2 with h0 | ⟨b, cs, T, e, hb, h⟩
  · exact .inl h0
  · exact .inr ⟨b, cs, T, e, by omega, h⟩
theorem Ow.below {k n B : Nat} {w w' : World} {a : Option Addr} {g : Nat → Nat → Value} (h : Ow k w B a n g) (hb : Below w.heap.size w w') : Ow k w' B a n g := by
  refine ⟨h.1, ?_⟩
  rcases h.2 with h0 | ⟨b, cs, T, e, hB, hk, h⟩
  · exact .inl h0
  · exact .inr ⟨b, cs, T, e, hB, hk.below hb, h⟩
theorem Ow.drew {k n B : Nat} {w : World} {a : Option Addr} {g : Nat → Nat → Value} (h : Ow k w B a n g) : Ow k w.drew B a n g := h
theorem Ow.none (k : Nat) (w : World) (B : Nat) (a : Option Addr) (g : Nat → Nat → Value) : Ow k w B a 0 g := ⟨by omega, .inl rfl⟩
theorem Ow.congr {k n B : Nat} {w : World} {a : Option Addr} {g g' : Nat → Nat → Value} (h : Ow k w B a n g) (hg : ∀ i, i < n → ∀ j, j < k → g i j = g' i j) : Ow k w B a n g' := by
  refine ⟨h.1, ?_⟩
  rcases h.2 with h0 | ⟨b, cs, T, e, hB, hk, h⟩
  · exact .inl h0
  · exact .inr ⟨b, cs, T, e, hB, hk, fun i hi j hj => by rw [h i hi j hj, hg i hi j hj]⟩

/-- Of what was there, only blocks from lo to hi may have turned. -/
structure Chg (lo hi : Nat) (w w' : World) : Prop where
  os : w'.os = w.os
  tape : w'.tape = w.tape
  output : w'.output = w.output
  size : w.heap.size ≤ w'.heap.size
  block : ∀ k, k < w.heap.size → ¬ (lo ≤ k ∧ k < hi) → w'.heap[k]? = w.heap[k]?
theorem Chg.refl (lo hi : Nat) (w : World) : Chg lo hi w w := ⟨rfl, rfl, rfl, Nat.le_refl _, fun _ _ _ => rfl⟩
theorem Chg.trans {lo hi : Nat} {a b c : World} (h : Chg lo hi a b) (k : Chg lo hi b c) : Chg lo hi a c :=
  ⟨k.os.trans h.os, k.tape.trans h.tape, k.output.trans h.output, Nat.le_trans h.size k.size, fun i h1 h2 => (k.block i (Nat.lt_of_lt_of_le h1 h.size) h2).trans (h.block i h1 h2)⟩
theorem Chg.of_below {lo hi : Nat} {a b : World} (h : Below a.heap.size a b) : Chg lo hi a b := ⟨h.os, h.tape, h.output, h.size, fun i h1 _ => h.block i h1⟩
theorem Chg.mono {lo hi lo' hi' : Nat} {a b : World} (h : Chg lo hi a b) (h1 : lo' ≤ lo) (h2 : hi ≤ hi') : Chg lo' hi' a b :=
  ⟨h.os, h.tape, h.output, h.size, fun i hi hn => h.block i hi (by omega)⟩
theorem Chg.below {lo hi B : Nat} {a b : World} (h : Chg lo hi a b) (hB : B ≤ lo) (hs : B ≤ a.heap.size) : Below B a b := ⟨h.os, h.tape, h.output, h.size, fun i hi => h.block i (by omega) (by omega)⟩
theorem Chg.set {lo hi : Nat} {a w : World} (h : Chg lo hi a w) {b : Nat} (hb : (lo ≤ b ∧ b < hi) ∨ a.heap.size ≤ b) (k : Nat) (v : Value) : Chg lo hi a (w.setCell ⟨b, k, none⟩ v) :=
  ⟨h.os, h.tape, h.output, by simpa [World.setCell] using h.size, fun i hi hn => (Below.heap_setCell w _ v i (by simp; omega)).trans (h.block i hi hn)⟩
theorem Chg.alloc {lo hi : Nat} {a w : World} (h : Chg lo hi a w) (o : Obj) : Chg lo hi a (w.alloc o) :=
  ⟨h.os, h.tape, h.output, Nat.le_trans h.size (by simp), fun i hi hn => (Below.heap_alloc w o i (Nat.lt_of_lt_of_le hi h.size)).trans (h.block i hi hn)⟩
theorem Chg.drewN {lo hi : Nat} {a w : World} (h : Chg lo hi a w) (n : Nat) : Chg lo hi a (w.drewN n) := ⟨h.os, h.tape, h.output, h.size, h.block⟩
theorem Chg.drew {lo hi : Nat} {a w : World} (h : Chg lo hi a w) : Chg lo hi a w.drew := ⟨h.os, h.tape, h.output, h.size, h.block⟩
/-- What is below some block goes on behind a change of later blocks. -/
theorem bchg {lo hi : Nat} {a w w' : World} (h : Below a.heap.size a w) (k : Chg lo hi w w') (hB : a.heap.size ≤ lo) : Below a.heap.size a w' := h.trans (k.below hB h.size)
theorem Blk.chg {w w' : World} {b lo hi : Nat} {cs : Array Value} {T : TypeId} (h : Blk w b cs T) (hl : Chg lo hi w w') (hb : b < lo ∨ hi ≤ b) : Blk w' b cs T := (hl.block b h.lt (by omega)).trans h
theorem Sl.chg {k n B lo hi : Nat} {w w' : World} {a : Option Addr} {g : Nat → Nat → Value} (h : Sl k w B a n g) (hl : Chg lo hi w w') (hB : B ≤ lo) (hs : B ≤ w.heap.size) : Sl k w' B a n g := h.below (hl.below hB hs)
theorem Ow.chg {k n B lo hi : Nat} {w w' : World} {a : Option Addr} {g : Nat → Nat → Value} (h : Ow k w B a n g) (hl : Chg lo hi w w') (hB : hi ≤ B) : Ow k w' B a n g := by
  refine ⟨h.1, ?_⟩
  rcases h.2 with h0 | ⟨b, cs, T, e, hb, hk, h⟩
  · exact .inl h0
  · exact .inr ⟨b, cs, T, e, hb, hk.chg hl (.inr (by omega)), h⟩
theorem Ow.chg_lo {k n B lo hi H : Nat} {w w' : World} {a : Option Addr} {g : Nat → Nat → Value} (h : Ow k w B a n g) (hS : Sl k w H a n g) (hl : Chg lo hi w w') (hB : H ≤ lo) : Ow k w' B a n g := by
  refine ⟨h.1, ?_⟩
  rcases h.2 with h0 | ⟨b, cs, T, e, hb, hk, h⟩
  · exact .inl h0
  · rcases hS.2 with h0 | ⟨b', off, e', hb', _⟩
    · exact .inl h0
    · rw [e] at e'
      simp only [Option.some.injEq, Addr.mk.injEq] at e'
      exact .inr ⟨b, cs, T, e, hb, hk.chg hl (.inl (by omega)), h⟩
/-- A row of one's own, as such a slice. -/
theorem ow_of_row {w : World} {base k n cap : Nat} {a : Option Addr} {e : TypeId} {xs : List Value} {g : Nat → Nat → Value} (h : w.ownsRow base e k (.slice a n cap) n xs) (hn : n ≤ 9223372036854775807)
    (hx : ∀ i, i < n → ∀ j, j < k → xs[i * k + j]? = some (g i j)) : Ow k w base a n g := by
  refine ⟨hn, ?_⟩
  obtain ⟨hl, h⟩ := h
  rcases h with ⟨_, h0⟩ | ⟨g', cap', cur, h, hb, hg, _, _, hs, hxs⟩
  · exact .inl h0
  · simp only [Value.slice.injEq] at h
    refine .inr ⟨g', cur, e, h.1, hb, hg, fun i hi j hj => ?_⟩
    rw [← hx i hi j hj, ← hxs, List.getElem?_take_of_lt, Array.getElem?_toList]
    have := Nat.mul_le_mul_right k (show i + 1 ≤ n from hi)
    rw [Nat.add_mul] at this
    omega
end Go.Proofs.Ytjlaikmilcgmhaa
