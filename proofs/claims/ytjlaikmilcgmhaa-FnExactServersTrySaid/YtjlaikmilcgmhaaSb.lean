/- The draw of servers. -/
import Derived.Test.YtjlaikmilcgmhaaSa
namespace Go.Proofs.Ytjlaikmilcgmhaa
open Go.RowKit
set_option linter.unusedVariables false
attribute [local go_sem ↓] Go.wp_at_zero Go.wp_at_succ

/-- Servers that lie from B to H, readable. -/
def NsB (w : World) (B : Nat) (a : Option Addr) (n : Nat) (xs : SV) : Prop :=
  xs.length = n ∧ ∃ sl : Nat → Option Addr × Nat, (∃ b cs T, a = some ⟨b, 0, none⟩ ∧ B ≤ b ∧ Blk w b cs T ∧ ∀ i, i < n → cs[i * 2]? = some (.int .i64 (xs.getD i (0, [])).1) ∧ cs[i * 2 + 1]? = some (.slice (sl i).1 (xs.getD i (0, [])).2.length (sl i).2)) ∧
    ∀ i, i < n → (xs.getD i (0, [])).2.length ≤ (sl i).2 ∧ (xs.getD i (0, [])).2.length ≤ 1048576 ∧ Ow 2 w B (sl i).1 (xs.getD i (0, [])).2.length (tkG (xs.getD i (0, [])).2)
theorem NsB.length {w : World} {B n : Nat} {a : Option Addr} {xs : SV} (h : NsB w B a n xs) : xs.length = n := h.1
theorem ow_lo {k n B bk : Nat} {w w' : World} {a : Option Addr} {g : Nat → Nat → Value} (h : Ow k w B a n g) (hl : Lo bk w w') (hb : bk < B) : Ow k w' B a n g := by
  refine ⟨h.1, ?_⟩
  rcases h.2 with h0 | ⟨b, cs, T, e, hB, hk, h⟩
  · exact .inl h0
  · exact .inr ⟨b, cs, T, e, hB, hk.lo hl (by omega), h⟩
theorem NsB.lo {w w' : World} {B n bk : Nat} {a : Option Addr} {xs : SV} (h : NsB w B a n xs) (hl : Lo bk w w') (hb : bk < B) : NsB w' B a n xs := by
  obtain ⟨h0, sl, ⟨b, cs, T, e, hB, hk, hc⟩, hi⟩ := h
  exact ⟨h0, sl, ⟨b, cs, T, e, hB, hk.lo hl (by omega), hc⟩, fun i h => ⟨(hi i h).1, (hi i h).2.1, ow_lo (hi i h).2.2 hl hb⟩⟩
theorem NsB.set {w : World} {B n b j : Nat} {a : Option Addr} {xs : SV} {v : Value} (h : NsB w B a n xs) (hb : b < B) : NsB (w.setCell ⟨b, j, none⟩ v) B a n xs := by
  obtain ⟨h0, sl, ⟨b', cs, T, e, hB, hk, hc⟩, hi⟩ := h
  refine ⟨h0, sl, ⟨b', cs, T, e, hB, hk.other (by omega) _ _, hc⟩, fun i h => ⟨(hi i h).1, (hi i h).2.1, ?_⟩⟩
  obtain ⟨h1, h2⟩ := (hi i h).2.2
  refine ⟨h1, ?_⟩
  rcases h2 with h2 | ⟨b2, cs2, T2, e2, hB2, hk2, hc2⟩
  · exact .inl h2
  · exact .inr ⟨b2, cs2, T2, e2, hB2, hk2.other (by omega) _ _, hc2⟩
theorem NsB.ns {w : World} {B n : Nat} {a : Option Addr} {xs : SV} (h : NsB w B a n xs) (hn : n ≤ 1048576) : Ns 2 tkG w w.heap.size a n xs := by
  obtain ⟨h0, sl, ⟨b, cs, T, e, hB, hk, hc⟩, hi⟩ := h
  refine ⟨h0, sl, ⟨by omega, .inr ⟨b, 0, e, hk.lt, fun i h j hj => ?_⟩⟩, fun i h => ⟨(hi i h).1, (hi i h).2.2.sl⟩⟩
  rw [Nat.zero_add]
  match j, hj with
  | 0, _ => exact hk.cell _ (hc i h).1
  | 1, _ => exact hk.cell _ (hc i h).2
theorem NsB.cell0 {w : World} {B n g : Nat} {xs : SV} (h : NsB w B (some ⟨g, 0, none⟩) n xs) (hn : 0 < n) : w.cell? ⟨g, 0, none⟩ = some (.int .i64 (xs.getD 0 (0, [])).1) := by
  obtain ⟨_, sl, ⟨b, cs, T, e, hB, hk, hc⟩, hi⟩ := h
  obtain ⟨rfl, _⟩ : g = b ∧ True := by simpa using e
  have := hk.cell _ (hc 0 hn).1
  simpa using this
theorem NsB.take {w : World} {B n m : Nat} {a : Option Addr} {xs : SV} (h : NsB w B a n xs) (hm : m ≤ n) : NsB w B a m (xs.take m) := by
  obtain ⟨h0, sl, ⟨b, cs, T, e, hB, hk, hc⟩, hi⟩ := h
  have eg : ∀ i, i < m → (xs.take m).getD i (0, []) = xs.getD i (0, []) := fun i hi => by
    rw [List.getD_eq_getElem?_getD, List.getD_eq_getElem?_getD, List.getElem?_take_of_lt hi]
  refine ⟨by rw [List.length_take]; omega, sl, ⟨b, cs, T, e, hB, hk, fun i h => by rw [eg i h]; exact hc i (by omega)⟩, fun i h => by rw [eg i h]; exact hi i (by omega)⟩
theorem nsb_of {w : World} {base n cap g : Nat} {sl : SR} (h : SvR w base (.slice (some ⟨g, 0, none⟩) n cap) sl) (hl : sl.length = n) (hm : ∀ t ∈ sl, t.2.1.length ≤ 9) : NsB w base (some ⟨g, 0, none⟩) n (srvs sl) := by
  obtain ⟨⟨_, ⟨h0, _⟩ | ⟨g', cap', cur, hv, hg, hc, hnc, _, hs, hx⟩⟩, hin⟩ := h
  · cases h0
  · simp only [Value.slice.injEq, Option.some.injEq, Addr.mk.injEq, and_true] at hv
    obtain ⟨rfl, rfl, rfl⟩ := hv
    refine ⟨by rw [srvs_len, hl], fun i => (sl.getD i (0, [], none, 0)).2.2, ⟨g, cur, _, rfl, hg, hc, fun i hi => ?_⟩, fun i hi => ?_⟩
    · obtain ⟨h1, h2⟩ := srC_at sl i (by omega)
      rw [srvs_at]
      rw [← hx, List.getElem?_take_of_lt (by omega), Array.getElem?_toList] at h1
      rw [← hx, List.getElem?_take_of_lt (by omega), Array.getElem?_toList] at h2
      exact ⟨h1, h2⟩
    · rw [srvs_at]
      have m : sl.getD i (0, [], none, 0) ∈ sl := getD_mem (by omega)
      have hr := hin _ m
      unfold inS at hr
      have hm' : (sl.getD i (0, [], none, 0)).2.1.length ≤ 9 := hm _ m
      exact ⟨row_cap hr, Nat.le_trans hm' (by omega), ow_of_row hr (Nat.le_trans hm' (by omega)) (fun i hi j hj => flat_at _ i hi j hj)⟩

theorem all_snoc {P : (Int × TL × Option Addr × Nat) → Prop} {sl : SR} {t : Int × TL × Option Addr × Nat} (h : ∀ t ∈ sl, P t) (ht : P t) : ∀ u ∈ sl ++ [t], P u := by
  intro u hu
  rcases List.mem_append.1 hu with hu | hu
  · exact h u hu
  · rw [List.mem_singleton.1 hu]; exact ht
theorem rows_lt {w : World} {base k n : Nat} {e : TypeId} {v : Value} {xs : List Value} (h : w.ownsRow base e k v n xs) : ∀ g, v.ownBlock = some g → base ≤ g ∧ g < w.heap.size := by
  intro g hg
  obtain ⟨a, cap, rfl⟩ := row_form h
  exact h.lt _ hg
theorem RS.grown {a w w' : World} {bk p base k n : Nat} {e : TypeId} {v : Value} {xs : List Value} (h : RS a bk p w) (own : w.ownsRow base e k v n xs) (hg : w.grownBy w' v.ownBlock) (hb : bk < base) (ha : a.heap.size ≤ base) (hz : base ≤ w.heap.size) : RS a bk p w' := by
  have hc := chg_grown own hg
  exact ⟨h.1.below (hc.below (Nat.le_refl _) hz) hb, ⟨hc.os.trans h.2.os, hc.tape.trans h.2.tape, hc.output.trans h.2.output, Nat.le_trans h.2.size hc.size, fun i hi hne => (hc.block i (Nat.lt_of_lt_of_le hi h.2.size) (by omega)).trans (h.2.block i hi hne)⟩⟩

end Go.Proofs.Ytjlaikmilcgmhaa
