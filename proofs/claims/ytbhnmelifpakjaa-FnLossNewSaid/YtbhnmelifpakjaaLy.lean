/- Packets laid anew. -/
import Derived.Test.YtbhnmelifpakjaaLv
import Derived.Test.YtbhnmelifpakjaaRq
import Derived.OwnWalk
namespace Go.Proofs.Ytbhnmelifpakjaa
open Go.RowKit
set_option linter.unusedVariables false

theorem toPk_c (x y z : Int) (w : World) :
    Calls Try.prog 36 #[.agg #[.int .i64 x, .int .i64 y, .int .i64 z]] w fun e w' => e = .returned (.agg #[.int .i64 x, .int .i64 y, .int .i64 z]) ∧ Below w.heap.size w w' := by
  go_enter Try.func36, Try.ntmps36
  go_wp2
  refine bodyPost_ret (v := .agg #[.int .i64 x, .int .i64 y, .int .i64 z]) (by simp [results, Try.results36, go_sem]) rfl ⟨rfl, ?_⟩
  repeat (first | with_reducible exact Below.refl _ _ | with_reducible refine Below.drew ?_ | with_reducible refine Below.setCell ?_ (by simp <;> omega) _ | with_reducible refine Below.alloc ?_ (by simp <;> omega) _)

theorem infoPk : (Try.prog.info? 51).map (fun i => (i.zero, i.size, i.bytes)) = some (some (.agg #[.int .i64 0, .int .i64 0, .int .i64 0]), 3, 24) := by kernel_rfl

/-- A block that holds the packets. -/
def Pks (w : World) (b : Nat) (l : List (Int × Int × Int)) : Prop := ∃ cs : Array Value, Blk w b cs 51 ∧ cs.size = l.length * 3 ∧ ∀ i, i < l.length → ∀ j, j < 3 → cs[i * 3 + j]? = some (pkG l i j)
theorem Pks.sl {w : World} {b : Nat} {l : List (Int × Int × Int)} (h : Pks w b l) (hn : l.length ≤ 9223372036854775807) : Sl 3 w (b + 1) (some ⟨b, 0, none⟩) l.length (pkG l) := by
  obtain ⟨cs, hB, _, hc⟩ := h
  exact sl_of_blk hB hn hc
theorem Pks.below {w w' : World} {b : Nat} {l : List (Int × Int × Int)} (h : Pks w b l) (hb : Below w.heap.size w w') : Pks w' b l := by
  obtain ⟨cs, hB, hs, hc⟩ := h
  exact ⟨cs, hB.below hb, hs, hc⟩
theorem Pks.other {w : World} {b b' : Nat} {l : List (Int × Int × Int)} (h : Pks w b l) (hb : b ≠ b') (k : Nat) (v : Value) : Pks (w.setCell ⟨b', k, none⟩ v) b l := by
  obtain ⟨cs, hB, hs, hc⟩ := h
  exact ⟨cs, hB.other hb k v, hs, hc⟩
theorem set3 {cs : Array Value} {n k : Nat} {g : Nat → Nat → Value} (hs : cs.size = n * 3) (hk : k < n) (h : ∀ i, i < k → ∀ j, j < 3 → cs[i * 3 + j]? = some (g i j))
    {v0 v1 v2 : Value} (e0 : g k 0 = v0) (e1 : g k 1 = v1) (e2 : g k 2 = v2) :
    ∀ i, i < k + 1 → ∀ j, j < 3 → (((cs.setIfInBounds (k * 3) v0).setIfInBounds (k * 3 + 1) v1).setIfInBounds (k * 3 + 2) v2)[i * 3 + j]? = some (g i j) := by
  subst e0 e1 e2
  intro i hi j hj
  by_cases e : i = k
  · subst e
    match j, hj with
    | 0, _ => simp [Array.getElem?_setIfInBounds]; omega
    | 1, _ => simp [Array.getElem?_setIfInBounds]; omega
    | 2, _ => simp [Array.getElem?_setIfInBounds]; omega
  · have := h i (by omega) j hj
    simp only [Array.getElem?_setIfInBounds]
    rw [if_neg (by omega), if_neg (by omega), if_neg (by omega)]
    exact this

set_option maxHeartbeats 1000000 in
theorem toPkS_c (a : Option Addr) (n cap : Nat) (l : List (Int × Int × Int)) (w : World) (hl : l.length = n) (hn : n ≤ 1048576) (S : Sl 3 w w.heap.size a n (pkG l)) :
    Calls Try.prog 34 #[.slice a n cap] w fun e w' => e = .returned (.slice (some ⟨w.heap.size, 0, none⟩) n n) ∧ Below w.heap.size w w' ∧ Pks w' w.heap.size l := by
  obtain ⟨i0, hi0, hz0, hs0, hb0⟩ := info_parts infoPk
  have HS := Lib.hid S; clear S
  go_enter Try.func34, Try.ntmps34
  go_wp2_with (first | (at_make; refine wpList_make_full w rfl _ _ _ rfl w.heap.size _ i0 _ 3 Try.underlying29 hi0 hz0 hs0 _ _ _ _ n rfl rfl rfl rfl (by rw [hb0]; omega) (by unfold maxLen; omega) (Nat.le_refl _) ?_; intro w1 hown hgrow) | fail)
  obtain ⟨cur, B1, hcur⟩ := owns_blk hown
  have hb1 := grown_below hgrow
  clear hown hgrow
  go_loopw [4] (fun i wr => ∃ k : Nat, k ≤ n ∧ i = .int .i64 k ∧ Below w.heap.size w wr ∧ ∃ cs : Array Value, Blk wr w.heap.size cs 51 ∧ cs.size = n * 3 ∧ ∀ i, i < k → ∀ j, j < 3 → cs[i * 3 + j]? = some (pkG l i j)) (fun i _ => n - (intOf i).toNat)
  case atStart => exact ⟨0, by omega, rfl, hb1, cur, B1, hcur, fun i hi => by omega⟩
  case round =>
    obtain ⟨k, hk, rfl, hbk, cs, Bk, hcs, hall⟩ := hrel
    clear hb1 B1
    by_cases hlt : k < n
    · have hki : (k : Int) < (n : Int) := by omega
      obtain ⟨b, off, rfl, hB, hc⟩ := (HS.out.below hbk).at hlt
      have x0 := hc k hlt 0 (by omega)
      have x1 := hc k hlt 1 (by omega)
      have x2 := hc k hlt 2 (by omega)
      obtain ⟨p, hp⟩ : ∃ p, l.getD k (0, 0, 0) = p := ⟨_, rfl⟩
      simp only [pkG, Nat.add_zero, hp] at x0 x1 x2
      have HP := Lib.hid hp
      clear hc hp
      go_wp2_with fail
      refine (toPk_c _ _ _ _).mono ?_
      rintro e w2 ⟨rfl, hb2⟩
      have B2 := Bk.below hb2
      obtain ⟨v0, e0⟩ := arr_some (show k * 3 < cs.size by omega)
      obtain ⟨v1, e1⟩ := arr_some (show k * 3 + 1 < cs.size by omega)
      obtain ⟨v2, e2⟩ := arr_some (show k * 3 + 2 < cs.size by omega)
      have c0 := B2.cell _ e0
      have c1 := B2.cell _ e1
      have c2 := B2.cell _ e2
      have f0 := B2.free (k * 3)
      have f1 := B2.free (k * 3 + 1)
      have f2 := B2.free (k * 3 + 2)
      go_wp2_with fail
      go_roundw
      case rel =>
        have R := set3 hcs hlt hall (v0 := .int .i64 p.1) (v1 := .int .i64 p.2.1) (v2 := .int .i64 p.2.2) (by simp only [pkG, HP.out]) (by simp only [pkG, HP.out]) (by simp only [pkG, HP.out])
        have D := ((B2.set (k * 3) (.int .i64 p.1)).set (k * 3 + 1) (.int .i64 p.2.1)).set (k * 3 + 2) (.int .i64 p.2.2)
        have hb := bstep hbk hb2
        clear hall HS hbk hb2 e0 e1 e2 x0 x1 x2 c0 c1 c2 f0 f1 f2
        refine ⟨k + 1, by omega, by go_num, ?_, ?_⟩
        · repeat (first | with_reducible exact hb | with_reducible refine Below.setCell ?_ (by simp <;> omega) _)
        · with_reducible exact ⟨_, D, by simp [hcs], R⟩
      case measure => simp [intOf]; omega
    · obtain rfl : k = n := by omega
      go_wp2_with fail
      go_ret
      exact ⟨rfl, hbk, cs, Bk, by rw [hcs, hl], by rw [hl]; exact hall⟩
end Go.Proofs.Ytbhnmelifpakjaa
