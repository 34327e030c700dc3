/- Slices of one's own with an upper bound that no world moves. -/
import Derived.Test.YtjlaikmilcgmhaaGo
namespace Go.Proofs.Ytjlaikmilcgmhaa
open Go.RowKit
set_option linter.unusedVariables false

/-- The slice is empty or lies below block H. -/
def Lt (a : Option Addr) (n H : Nat) : Prop := n = 0 ∨ ∃ b o, a = some ⟨b, o, none⟩ ∧ b < H
theorem Ow.lt {k n B : Nat} {w : World} {a : Option Addr} {g : Nat → Nat → Value} (h : Ow k w B a n g) : Lt a n w.heap.size := by
  rcases h.2 with h0 | ⟨b, cs, T, e, hB, hb, hc⟩
  · exact .inl h0
  · exact .inr ⟨b, 0, e, hb.lt⟩
theorem Lt.mono {a : Option Addr} {n H H' : Nat} (h : Lt a n H) (hH : H ≤ H') : Lt a n H' := by
  rcases h with h0 | ⟨b, o, e, hb⟩
  · exact .inl h0
  · exact .inr ⟨b, o, e, by omega⟩
theorem Ow.slt {k n B H : Nat} {w : World} {a : Option Addr} {g : Nat → Nat → Value} (h : Ow k w B a n g) (hL : Lt a n H) : Sl k w H a n g := by
  refine ⟨h.1, ?_⟩
  rcases h.2 with h0 | ⟨b, cs, T, e, hB, hb, hc⟩
  · exact .inl h0
  · rcases hL with h0 | ⟨b', o', e', hb'⟩
    · exact .inl h0
    · rw [e] at e'
      simp only [Option.some.injEq, Addr.mk.injEq] at e'
      exact .inr ⟨b, 0, e, by omega, fun i hi j hj => by rw [Nat.zero_add]; exact hb.cell _ (hc i hi j hj)⟩
theorem Ow.chg_lt {k n B lo hi H : Nat} {w w' : World} {a : Option Addr} {g : Nat → Nat → Value} (h : Ow k w B a n g) (hL : Lt a n H) (hl : Chg lo hi w w') (hB : H ≤ lo) : Ow k w' B a n g := h.chg_lo (h.slt hL) hl hB
end Go.Proofs.Ytjlaikmilcgmhaa
