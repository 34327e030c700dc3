/- Slices of structs: what is read of them. -/
import Derived.Test.YtjlaikmilcgmhaaRd
import Derived.LoopTactic
import Derived.OwnWalk
namespace Go.Proofs.Ytjlaikmilcgmhaa
open Go.RowKit
set_option linter.unusedVariables false

/-- A slice of n structs of k cells each, in a block below B; field j of element i holds g i j. -/
def Sl (k : Nat) (w : World) (B : Nat) (a : Option Addr) (n : Nat) (g : Nat → Nat → Value) : Prop :=
  n ≤ 9223372036854775807 ∧ (n = 0 ∨ ∃ b off, a = some ⟨b, off, none⟩ ∧ b < B ∧ ∀ i, i < n → ∀ j, j < k → w.cell? ⟨b, off + i * k + j, none⟩ = some (g i j))

theorem Sl.len {k n B : Nat} {w : World} {a : Option Addr} {g : Nat → Nat → Value} (h : Sl k w B a n g) : (n : Int) ≤ 9223372036854775807 := by
  have := h.1
  omega
theorem Sl.at {k n B : Nat} {w : World} {a : Option Addr} {g : Nat → Nat → Value} (h : Sl k w B a n g) {i : Nat} (hi : i < n) :
    ∃ b off, a = some ⟨b, off, none⟩ ∧ b < B ∧ ∀ i, i < n → ∀ j, j < k → w.cell? ⟨b, off + i * k + j, none⟩ = some (g i j) := by
  rcases h.2 with h0 | h
  · omega
  · exact h
theorem Sl.below {k n B : Nat} {w w' : World} {a : Option Addr} {g : Nat → Nat → Value} (h : Sl k w B a n g) (hb : Below B w w') : Sl k w' B a n g := by
  refine ⟨h.1, ?_⟩
  rcases h.2 with h0 | ⟨b, off, e, hB, hc⟩
  · exact .inl h0
  · exact .inr ⟨b, off, e, hB, fun i hi j hj => (hb.cell (p := ⟨b, _, none⟩) hB).trans (hc i hi j hj)⟩
theorem Sl.mono {k n B B' : Nat} {w : World} {a : Option Addr} {g : Nat → Nat → Value} (h : Sl k w B a n g) (hB : B ≤ B') : Sl k w B' a n g := by
  refine ⟨h.1, ?_⟩
  rcases h.2 with h0 | ⟨b, off, e, hb, hc⟩
  · exact .inl h0
  · exact .inr ⟨b, off, e, by omega, hc⟩

theorem bdrewN {B : Nat} {a w : World} (h : Below B a w) (n : Nat) : Below B a (w.drewN n) := ⟨h.os, h.tape, h.output, h.size, h.block⟩
theorem bdrew {B : Nat} {a w : World} (h : Below B a w) : Below B a w.drew := ⟨h.os, h.tape, h.output, h.size, h.block⟩
theorem all_step {f : Nat → Bool} {k : Nat} (h : ∀ j, j < k → f j = true) (hk : f k = true) : ∀ j, j < k + 1 → f j = true := by
  intro j hj
  by_cases e : j = k
  · rw [e]; exact hk
  · exact h j (by omega)

/-- A row of one's own, as a block. -/
theorem owns_blk {w : World} {base g n cap k : Nat} {e : TypeId} {xs : List Value} (h : w.ownsRow base e k (.slice (some ⟨g, 0, none⟩) n cap) n xs) : ∃ cur, Blk w g cur e ∧ cur.size = cap * k := by
  obtain ⟨_, h⟩ := h
  rcases h with ⟨h, _⟩ | ⟨g', cap', cur, h, _, hg, _, _, hs, _⟩
  · cases h
  · cases h
    exact ⟨cur, hg, hs⟩
theorem grown_below {w w' : World} (h : w.grownBy w' none) : Below w.heap.size w w' := ⟨h.os, h.tape, h.output, h.size, fun k hk => h.block k hk (by simp)⟩
theorem arr_some {cs : Array Value} {i : Nat} (h : i < cs.size) : ∃ v, cs[i]? = some v := ⟨cs[i], Array.getElem?_eq_getElem h⟩
/-- A block that lies as a slice of structs. -/
theorem sl_of_blk {k n b : Nat} {w : World} {cs : Array Value} {T : TypeId} {g : Nat → Nat → Value} (h : Blk w b cs T) (hn : n ≤ 9223372036854775807) (hc : ∀ i, i < n → ∀ j, j < k → cs[i * k + j]? = some (g i j)) : Sl k w (b + 1) (some ⟨b, 0, none⟩) n g :=
  ⟨hn, .inr ⟨b, 0, rfl, by omega, fun i hi j hj => by rw [Nat.zero_add]; exact h.cell _ (hc i hi j hj)⟩⟩

end Go.Proofs.Ytjlaikmilcgmhaa
