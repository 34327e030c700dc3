/- Slices of one's own with an upper bound that no world moves. -/
import Derived.Test.YtjlaikmilcgmhaaGo
import Derived.Deep.DeepCutAuto
import Derived.Deep.RegionHeld3
namespace Go.Proofs.Ytjlaikmilcgmhaa
open Go.RowKit
set_option linter.unusedVariables false

/-- The slice is empty or lies below block H. -/
def Lt (a : Option Addr) (n H : Nat) : Prop := n = 0 ∨ ∃ b o, a = some ⟨b, o, none⟩ ∧ b < H
theorem Ow.lt {k n B : Nat} {w : World} {a : Option Addr} {g : Nat → Nat → Value} (h : Ow k w B a n g) : Lt a n w.heap.size := by
  rcases h.2 with h0 | ⟨b, cs, T, e, hB, hb, hc⟩
  · exact .inl h0
  · exact .inr ⟨b, 0, e, hb.lt⟩
theorem Lt.mono {a : Option Addr} {n H H' : Nat} (h : Lt a n H) (hH : H ≤ H') : Lt a n H' := by
  rcases h with h0 | ⟨b, o, e, hb⟩
  · exact .inl h0
  · exact .inr ⟨b, o, e, by omega⟩
theorem Ow.slt {k n B H : Nat} {w : World} {a : Option Addr} {g : Nat → Nat → Value} (h : Ow k w B a n g) (hL : Lt a n H) : Sl k w H a n g := by
  refine ⟨h.1, ?_⟩
  rcases h.2 with h0 | ⟨b, cs, T, e, hB, hb, hc⟩
  · exact .inl h0
  · rcases hL with h0 | ⟨b', o', e', hb'⟩
    · exact .inl h0
    · rw [e] at e'
      simp only [Option.some.injEq, Addr.mk.injEq] at e'
      exact .inr ⟨b, 0, e, by omega, fun i hi j hj => by rw [Nat.zero_add]; exact hb.cell _ (hc i hi j hj)⟩
theorem Ow.chg_lt {k n B lo hi H : Nat} {w w' : World} {a : Option Addr} {g : Nat → Nat → Value} (h : Ow k w B a n g) (hL : Lt a n H) (hl : Chg lo hi w w') (hB : H ≤ lo) : Ow k w' B a n g := h.chg_lo (h.slt hL) hl hB
theorem Ow.alloc {k n B : Nat} {w : World} {a : Option Addr} {g : Nat → Nat → Value} (h : Ow k w B a n g) (o : Obj) : Ow k (w.alloc o) B a n g := h.below (bpush (Below.refl w.heap.size w) o)
theorem Lt.of_none {n H : Nat} : Lt Option.none n H → n = 0 := fun h => by
  rcases h with h | ⟨b, o, e, _⟩
  · exact h
  · cases e
/-- What a statement has laid: a register's struct at block O, its slice apart from it, all behind the world before. -/
def Laid (TR : TypeId) (cur : World) (N : Int) (n : Nat) (g : Nat → Nat → Value) (V : Bool) (p b : Value) (wx : World) : Prop :=
  ∃ (O B H : Nat) (a : Option Addr) (c : Nat), p = .pointer (some ⟨O, 0, none⟩) ∧ b = .bool V ∧ Below cur.heap.size cur wx ∧ cur.heap.size ≤ O ∧ cur.heap.size ≤ B ∧ H ≤ wx.heap.size ∧ (O < B ∨ H ≤ O) ∧ Blk wx O #[.int .i64 N, .slice a n c] TR ∧ Ow 2 wx B a n g ∧ Lt a n H
theorem laid_old {TR : TypeId} {cur ws : World} {N : Int} {O B n c : Nat} {a : Option Addr} {g : Nat → Nat → Value} {V : Bool} {x y : Value} (hO : Blk ws O #[x, y] TR) (hD : Below cur.heap.size cur ws) (hos : Ow 2 ws B a n g) (h1 : cur.heap.size ≤ O) (h2 : O < B) :
    Laid TR cur N n g V (.pointer (some ⟨O, 0, Option.none⟩)) (.bool V) ((ws.setCell ⟨O, 0, Option.none⟩ (.int .i64 N)).setCell ⟨O, 1, Option.none⟩ (.slice a n c)) :=
  ⟨O, B, ws.heap.size, a, c, rfl, rfl, (hD.setCell (p := ⟨O, 0, Option.none⟩) h1 _).setCell (p := ⟨O, 1, Option.none⟩) h1 _, h1, by omega, by simp [World.setCell], .inl h2, (hO.set 0 _).set 1 _,
    hos.chg (Chg.set (Chg.set (Chg.refl O (O + 1) ws) (.inl ⟨Nat.le_refl _, Nat.lt_succ_self _⟩) 0 _) (.inl ⟨Nat.le_refl _, Nat.lt_succ_self _⟩) 1 _) h2, hos.lt⟩
theorem laid_new {TR : TypeId} {cur ws : World} {N : Int} {B n c : Nat} {a : Option Addr} {g : Nat → Nat → Value} {V : Bool} (hD : Below cur.heap.size cur ws) (hos : Ow 2 ws B a n g) (hB : cur.heap.size ≤ B) :
    Laid TR cur N n g V (.pointer (some ⟨ws.heap.size, 0, Option.none⟩)) (.bool V) (ws.alloc (Obj.cells #[.int .i64 N, .slice a n c] TR)) :=
  ⟨ws.heap.size, B, ws.heap.size, a, c, rfl, rfl, bpush hD _, hD.size, hB, by simp, .inr (Nat.le_refl _), Blk.new _ _ _, hos.alloc _, hos.lt⟩
end Go.Proofs.Ytjlaikmilcgmhaa
