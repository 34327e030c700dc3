/- Slices of structs that hold a number and a slice. -/
import Derived.Test.YtjlaikmilcgmhaaSl
namespace Go.Proofs.Ytjlaikmilcgmhaa
open Go.RowKit
set_option linter.unusedVariables false

def nsG {τ : Type} (xs : List (Int × List τ)) (sl : Nat → Option Addr × Nat) (i j : Nat) : Value := match j with
  | 0 => .int .i64 (xs.getD i (0, [])).1
  | _ => .slice (sl i).1 (xs.getD i (0, [])).2.length (sl i).2
/-- n structs of a number and a slice, each of these slices below B, too. -/
def Ns {τ : Type} (k : Nat) (G : List τ → Nat → Nat → Value) (w : World) (B : Nat) (a : Option Addr) (n : Nat) (xs : List (Int × List τ)) : Prop :=
  xs.length = n ∧ ∃ sl : Nat → Option Addr × Nat, Sl 2 w B a n (nsG xs sl) ∧ ∀ i, i < n → (xs.getD i (0, [])).2.length ≤ (sl i).2 ∧ Sl k w B (sl i).1 (xs.getD i (0, [])).2.length (G (xs.getD i (0, [])).2)
section
variable {τ : Type} {k n B B' : Nat} {G : List τ → Nat → Nat → Value} {w w' : World} {a : Option Addr} {xs : List (Int × List τ)}
theorem Ns.length (h : Ns k G w B a n xs) : xs.length = n := h.1
theorem Ns.len (h : Ns k G w B a n xs) : (n : Int) ≤ 9223372036854775807 := by
  obtain ⟨_, sl, h1, _⟩ := h
  exact h1.len
theorem Ns.below (h : Ns k G w B a n xs) (hb : Below B w w') : Ns k G w' B a n xs := by
  obtain ⟨h0, sl, h1, h2⟩ := h
  exact ⟨h0, sl, h1.below hb, fun i hi => ⟨(h2 i hi).1, (h2 i hi).2.below hb⟩⟩
theorem Ns.mono (h : Ns k G w B a n xs) (hB : B ≤ B') : Ns k G w B' a n xs := by
  obtain ⟨h0, sl, h1, h2⟩ := h
  exact ⟨h0, sl, h1.mono hB, fun i hi => ⟨(h2 i hi).1, (h2 i hi).2.mono hB⟩⟩
/-- One element: its cells, and its slice. -/
theorem Ns.at (h : Ns k G w B a n xs) {i : Nat} (hi : i < n) : ∃ b off a' c', a = some ⟨b, off, none⟩ ∧ b < B ∧ w.cell? ⟨b, off + i * 2, none⟩ = some (.int .i64 (xs.getD i (0, [])).1) ∧ w.cell? ⟨b, off + i * 2 + 1, none⟩ = some (.slice a' (xs.getD i (0, [])).2.length c') ∧ (xs.getD i (0, [])).2.length ≤ c' ∧ Sl k w B a' (xs.getD i (0, [])).2.length (G (xs.getD i (0, [])).2) := by
  obtain ⟨h0, sl, h1, h2⟩ := h
  obtain ⟨b, off, rfl, hB, hc⟩ := h1.at hi
  obtain ⟨h3, h4⟩ := h2 i hi
  exact ⟨b, off, (sl i).1, (sl i).2, rfl, hB, hc i hi 0 (by omega), hc i hi 1 (by omega), h3, h4⟩
theorem Ns.none (h : Ns k G w B a n xs) : a = none → n = 0 := by
  rintro rfl
  obtain ⟨_, sl, h1, _⟩ := h
  rcases h1.2 with h0 | ⟨b, off, e, _⟩
  · exact h0
  · cases e
end
end Go.Proofs.Ytjlaikmilcgmhaa
