/- Marks in rows of one's own. -/
import Derived.Test.YtdnkopnhpffcdaaVq
import Derived.Test.YtdnkopnhpffcdaaVr
import Derived.Test.YtdnkopnhpffcdaaVs
namespace Go.Proofs.Ytdnkopnhpffcdaa
open Go.RowKit
set_option linter.unusedVariables false
theorem row_chg {w w' : World} {base k n lo hi : Nat} {e : TypeId} {v : Value} {xs : List Value} (h : w.ownsRow base e k v n xs) (hc : Chg lo hi w w') (hb : hi ≤ base) : w'.ownsRow base e k v n xs := by
  obtain ⟨hl, h | ⟨g, cap, cur, h, hg, hk, h'⟩⟩ := h
  · exact ⟨hl, .inl h⟩
  · have hlt : g < w.heap.size := (Array.getElem?_eq_some_iff.1 hk).1
    exact ⟨hl, .inr ⟨g, cap, cur, h, hg, (hc.block g hlt (by omega)).trans hk, h'⟩⟩
theorem OwT.chg {T : TypeId} {w w' : World} {B H lo hi : Nat} {a : Option Addr} {l : List Int} (h : OwT T w B H a l) (hc : Chg lo hi w w') (hb : hi ≤ B) : OwT T w' B H a l := by
  obtain ⟨b, cs, e, h1, h2, hk, hs, hx⟩ := h
  exact ⟨b, cs, e, h1, h2, hk.chg hc (.inr (by omega)), hs, hx⟩
theorem markR_c (k : Int) (hk0 : 0 ≤ k) (hk1 : k ≤ 1000000000) (a : Option Addr) (n cap base : Nat) (L : List Int) (w : World) (hn : n ≤ 1048576) (own : w.ownsRow base 3 1 (.slice a n cap) n (ints L)) :
    Calls Try.prog 32 #[.slice a n cap, .int .i64 k] w fun e w' => e = .returned (.int .i64 (k + n)) ∧ Chg base w.heap.size w w' ∧ Ow 1 w' base a n (mkI k) := by
  obtain ⟨hl, ⟨h, h0⟩ | ⟨g, cap', cur, h, hg, hc, hnc, _, hsz, _⟩⟩ := own
  · simp only [Value.slice.injEq] at h
    obtain ⟨rfl, rfl, rfl⟩ := h
    refine (markI0_c k hk0 hk1 none 0 w).mono ?_
    rintro e w' ⟨rfl, rfl⟩
    exact ⟨by simp, Chg.refl _ _ _, Ow.none _ _ _ _ _⟩
  · simp only [Value.slice.injEq] at h
    obtain ⟨rfl, -, rfl⟩ := h
    have hlt : g < w.heap.size := (Array.getElem?_eq_some_iff.1 hc).1
    refine (markI_c k hk0 hk1 g n cap cur _ w hn hc (by omega)).mono ?_
    rintro e w' ⟨rfl, hO, cs, hk, hs, hx⟩
    refine ⟨rfl, only_chg hO hg hlt, by omega, .inr ⟨g, cs, _, rfl, hg, hk, fun i hi j hj => ?_⟩⟩
    obtain rfl : j = 0 := by omega
    rw [Nat.mul_one, Nat.add_zero]
    exact hx i hi
theorem markT_c (k : Int) (hk0 : 0 ≤ k) (hk1 : k ≤ 1000000000) (a : Option Addr) (n cap B H : Nat) (T : TypeId) (L : List Int) (w : World) (hl : L.length = n) (hn : n ≤ 1048576) (own : OwT T w B H a L) :
    Calls Try.prog 32 #[.slice a n cap, .int .i64 k] w fun e w' => e = .returned (.int .i64 (k + n)) ∧ Chg B H w w' := by
  obtain ⟨b, cs, rfl, h1, h2, hk, hs, hx⟩ := own
  refine (markI_c k hk0 hk1 b n cap cs T w hn hk (by omega)).mono ?_
  rintro e w' ⟨rfl, hO, _⟩
  exact ⟨rfl, only_chg hO h1 h2⟩
end Go.Proofs.Ytdnkopnhpffcdaa
