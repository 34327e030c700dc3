/- The draw of boxes. -/
import Derived.Test.YtdnkopnhpffcdaaVi
namespace Go.Proofs.Ytdnkopnhpffcdaa
open Go.RowKit
set_option linter.unusedVariables false
attribute [local go_sem ↓] Go.wp_at_zero Go.wp_at_succ

theorem infoBx : (Try.prog.info? 33).map (fun i => (i.zero, i.size, i.bytes)) = some (some (.agg #[.int .i64 0, .slice none 0 0]), 2, 32) := by kernel_rfl
abbrev BL := List (Int × List Int × Option Addr × Nat)
def bxC (bl : BL) : List Value := bl.flatMap fun t => [.int .i64 t.1, .slice t.2.2.1 t.2.1.length t.2.2.2]
theorem bxC_snoc (bl : BL) (t : Int × List Int × Option Addr × Nat) : bxC (bl ++ [t]) = bxC bl ++ [.int .i64 t.1, .slice t.2.2.1 t.2.1.length t.2.2.2] := by simp [bxC]
theorem bxC_at (bl : BL) : ∀ i, i < bl.length → (bxC bl)[i * 2]? = some (.int .i64 (bl.getD i (0, [], none, 0)).1) ∧ (bxC bl)[i * 2 + 1]? = some (.slice (bl.getD i (0, [], none, 0)).2.2.1 (bl.getD i (0, [], none, 0)).2.1.length (bl.getD i (0, [], none, 0)).2.2.2) := by
  induction bl with
  | nil => intro i hi; simp at hi
  | cons t bl ih =>
    intro i hi
    cases i with
    | zero => exact ⟨by simp [bxC], by simp [bxC]⟩
    | succ i =>
      have := ih i (by simpa using hi)
      have e : ∀ k, (bxC (t :: bl))[k + 2]? = (bxC bl)[k]? := fun k => by simp [bxC]
      rw [show (i + 1) * 2 = i * 2 + 2 by omega, show i * 2 + 2 + 1 = i * 2 + 1 + 2 by omega, e, e]
      simpa using this
def inV (t : Int × List Int × Option Addr × Nat) : Value := .slice t.2.2.1 t.2.1.length t.2.2.2
/-- A row of boxes of one's own, with what they hold. -/
def BxR (w : World) (base : Nat) (v : Value) (bl : BL) : Prop :=
  w.ownsRow base 33 2 v bl.length (bxC bl) ∧ ∀ t ∈ bl, w.ownsRow base 3 1 (inV t) t.2.1.length (ints t.2.1)
def boxesOf (bl : BL) : BX := bl.map fun t => (t.1, t.2.1)
theorem boxesOf_at (bl : BL) (i : Nat) : (boxesOf bl).getD i (0, []) = ((bl.getD i (0, [], none, 0)).1, (bl.getD i (0, [], none, 0)).2.1) := by
  unfold boxesOf
  rw [List.getD_eq_getElem?_getD, List.getD_eq_getElem?_getD, List.getElem?_map]
  cases bl[i]? <;> rfl
theorem BxR.lo {w w' : World} {base bk : Nat} {v : Value} {bl : BL} (h : BxR w base v bl) (hl : Lo bk w w') (hb : bk < base) : BxR w' base v bl :=
  ⟨row_lo h.1 hl hb, fun t m => row_lo (h.2 t m) hl hb⟩
theorem BxR.below {w w' : World} {base : Nat} {v : Value} {bl : BL} (h : BxR w base v bl) (hl : Below w.heap.size w w') : BxR w' base v bl :=
  ⟨row_below h.1 hl, fun t m => row_below (h.2 t m) hl⟩
theorem BxR.alloc {w : World} {base : Nat} {v : Value} {bl : BL} (h : BxR w base v bl) (o : Obj) : BxR (w.alloc o) base v bl := h.below (bpush (Below.refl _ _) o)
theorem BxR.drew {w : World} {base : Nat} {v : Value} {bl : BL} (h : BxR w base v bl) : BxR w.drew base v bl := ⟨h.1.drew, fun t m => (h.2 t m).drew⟩
theorem BxR.grown {w w' : World} {base : Nat} {v : Value} {bl : BL} {r : Option Nat} (h : BxR w base v bl) (hg : w.grownBy w' r) (h1 : ∀ g, v.ownBlock = some g → r ≠ some g) (h2 : ∀ t ∈ bl, ∀ g, (inV t).ownBlock = some g → r ≠ some g) : BxR w' base v bl :=
  ⟨row_grown h.1 hg h1, fun t m => row_grown (h.2 t m) hg (h2 t m)⟩
theorem row_setv {w : World} {base k n b j : Nat} {e : TypeId} {v u : Value} {xs : List Value} (h : w.ownsRow base e k v n xs) (hne : v.ownBlock ≠ some b) : (w.setCell ⟨b, j, none⟩ u).ownsRow base e k v n xs := by
  obtain ⟨a, cap, rfl⟩ := row_form h
  exact row_sets h hne
theorem row_nev {w : World} {base k n b : Nat} {e T : TypeId} {v : Value} {cs : Array Value} {xs : List Value} (h : w.ownsRow base e k v n xs) (hb : Blk w b cs T) (hT : e ≠ T) : v.ownBlock ≠ some b := by
  obtain ⟨a, cap, rfl⟩ := row_form h
  exact row_ne h hb hT
theorem BxR.setv {w : World} {base b j : Nat} {v u : Value} {bl : BL} {cs : Array Value} (h : BxR w base v bl) (hb : Blk w b cs 33) (hne : v.ownBlock ≠ some b) : BxR (w.setCell ⟨b, j, none⟩ u) base v bl :=
  ⟨row_setv h.1 hne, fun t m => row_setv (h.2 t m) (row_nev (h.2 t m) hb (by decide))⟩
theorem rows_ne {w : World} {b1 b2 k1 k2 n1 n2 : Nat} {e1 e2 : TypeId} {v1 v2 : Value} {x1 x2 : List Value} (h : w.ownsRow b1 e1 k1 v1 n1 x1) (k : w.ownsRow b2 e2 k2 v2 n2 x2) (hT : e1 ≠ e2) : ∀ g, v1.ownBlock = some g → v2.ownBlock ≠ some g := by
  intro g hg
  obtain ⟨a, cap, rfl⟩ := row_form h
  obtain ⟨_, ⟨h0, _⟩ | ⟨g', cap', cur, hv, _, hc, _⟩⟩ := h
  · rw [h0] at hg; simp [Value.ownBlock] at hg
  · rw [hv] at hg
    simp only [Value.ownBlock, Option.some.injEq] at hg
    subst hg
    exact row_nev k (T := e1) hc (Ne.symm hT)
theorem rows_lt {w : World} {base k n : Nat} {e : TypeId} {v : Value} {xs : List Value} (h : w.ownsRow base e k v n xs) : ∀ g, v.ownBlock = some g → base ≤ g ∧ g < w.heap.size := by
  intro g hg
  obtain ⟨a, cap, rfl⟩ := row_form h
  exact h.lt _ hg
theorem BxR.ns {w : World} {base n cap : Nat} {a : Option Addr} {bl : BL} (h : BxR w base (.slice a n cap) bl) (hl : bl.length = n) (hn : n ≤ 1048576) (hm : ∀ t ∈ bl, t.2.1.length ≤ 1048576) : Ns 1 inG w w.heap.size a n (boxesOf bl) := by
  refine ⟨by simp [boxesOf, hl], fun i => (bl.getD i (0, [], none, 0)).2.2, ?_, fun i hi => ?_⟩
  · refine (ow_of_row (hl ▸ h.1) (by omega) (fun i hi j hj => ?_)).sl
    obtain ⟨h1, h2⟩ := bxC_at bl i (by omega)
    match j, hj with
    | 0, _ => rw [Nat.add_zero, h1]; simp only [nsG, boxesOf_at]
    | 1, _ => rw [h2]; simp only [nsG, boxesOf_at]
  · rw [boxesOf_at]
    have m : bl.getD i (0, [], none, 0) ∈ bl := getD_mem (by omega)
    have hr := h.2 _ m
    unfold inV at hr
    exact ⟨row_cap hr, (isl_row hr (hm _ m)).sl⟩
end Go.Proofs.Ytdnkopnhpffcdaa
