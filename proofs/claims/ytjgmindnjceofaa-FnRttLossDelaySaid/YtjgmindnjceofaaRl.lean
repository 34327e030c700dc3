/- Contracts of the loss delay and of the probe timeout. -/
import Derived.Test.YtjgmindnjceofaaRv
namespace Go.Proofs.Ytjgmindnjceofaa
open Go.RowKit
set_option linter.unusedVariables false

/-- The loss delay. -/
def lossN (a c : Int) : Int := if a = 0 then 100 else (if c / 8 < a then a else c / 8)
def lossF (a b c d : Int) : Int := if rttOk a b c d = true then lossN a c + lossN a c / 8 else 0

/-- The probe timeout. -/
def dblK (n : Int) : Nat → Int
  | 0 => n
  | k + 1 => 2 * dblK n k
def probeN (a c d : Int) : Int := if a = 0 then 100 else c / 8 + (if d < 1 then 1 else d)
def probeF (a b c d k : Int) : Int := if rttOk a b c d = true ∧ inB k 0 6 = true then dblK (probeN a c d) k.toNat else 0
theorem dblK_bd (n : Int) (h0 : 0 ≤ n) (h1 : n ≤ 5000) (k : Nat) (hk : k ≤ 6) : 0 ≤ dblK n k ∧ dblK n k ≤ 320000 := by
  have : ∀ j : Nat, 0 ≤ dblK n j ∧ dblK n j ≤ 5000 * (2 : Int) ^ j := by
    intro j
    induction j with
    | zero => simp [dblK]; omega
    | succ j ih => simp only [dblK, Int.pow_succ]; omega
  obtain ⟨a, b⟩ := this k
  have hp : (2 : Int) ^ k ≤ 64 := by
    rcases show k = 0 ∨ k = 1 ∨ k = 2 ∨ k = 3 ∨ k = 4 ∨ k = 5 ∨ k = 6 by omega with rfl | rfl | rfl | rfl | rfl | rfl | rfl <;> decide
  omega
theorem probeN_bd {a b c d : Int} (h : rttOk a b c d = true) : 1 ≤ probeN a c d ∧ probeN a c d ≤ 5000 := by
  unfold probeN
  by_cases ha : a = 0
  · simp [ha]
  · obtain ⟨h1, h2, h3, h4⟩ := rttOk_t h ha
    simp only [ha, if_false]
    split <;> omega

set_option maxHeartbeats 1000000 in
theorem loss_impl (a b c d : Int) (w : World) :
    Calls Try.prog 17 #[.agg #[.int .i64 a, .int .i64 b, .int .i64 c, .int .i64 d]] w fun e w' => e = .returned (.int .i64 (lossF a b c d)) ∧ Below w.heap.size w w' := by
  cases hv : rttOk a b c d
  · have E := Lib.hid (show lossF a b c d = 0 by simp [lossF, hv])
    rw [E.out]
    go_enter Try.func17, Try.ntmps17
    go_wp2_with fail
    refine (valid_impl _ _ _ _ _).mono ?_
    rintro e w1 ⟨rfl, hb1⟩
    have B1 := (Blk.new w #[.int .i64 a, .int .i64 b, .int .i64 c, .int .i64 d] 25).below hb1
    have c0 := B1.cell 0 rfl
    have c1 := B1.cell 1 rfl
    have c2 := B1.cell 2 rfl
    have c3 := B1.cell 3 rfl
    clear B1
    go_wp2_with fail
    go_ret
    exact ⟨rfl, bstep ((Below.refl _ _).alloc (Nat.le_refl _) _) hb1⟩
  · by_cases ha : a = 0
    · subst ha
      obtain ⟨rfl, rfl, rfl⟩ := rttOk_a hv rfl
      have E := Lib.hid (show lossF 0 0 0 0 = 112 by simp [lossF, hv, lossN])
      rw [E.out]
      go_enter Try.func17, Try.ntmps17
      go_wp2_with fail
      refine (valid_impl _ _ _ _ _).mono ?_
      rintro e w1 ⟨rfl, hb1⟩
      have B1 := (Blk.new w #[.int .i64 0, .int .i64 0, .int .i64 0, .int .i64 0] 25).below hb1
      have c0 := B1.cell 0 rfl
      have c1 := B1.cell 1 rfl
      have c2 := B1.cell 2 rfl
      have c3 := B1.cell 3 rfl
      clear B1
      go_wp2_with fail
      go_ret
      exact ⟨rfl, bstep ((Below.refl _ _).alloc (Nat.le_refl _) _) hb1⟩
    · obtain ⟨⟨h1, h2⟩, ⟨h3, h4⟩, ⟨h5, h6⟩, h7, h8⟩ := rttOk_t hv ha
      have ha' : (a == 0) = false := by simp [ha]
      by_cases hm : c / 8 < a
      all_goals
        have E := Lib.hid (show lossF a b c d = (if c / 8 < a then a else c / 8) + (if c / 8 < a then a else c / 8) / 8 by simp [lossF, hv, lossN, ha])
        rw [E.out]
        clear E
        go_enter Try.func17, Try.ntmps17
        go_wp2_with fail
        refine (valid_impl _ _ _ _ _).mono ?_
        rintro e w1 ⟨rfl, hb1⟩
        have B1 := (Blk.new w #[.int .i64 a, .int .i64 b, .int .i64 c, .int .i64 d] 25).below hb1
        have c0 := B1.cell 0 rfl
        have c1 := B1.cell 1 rfl
        have c2 := B1.cell 2 rfl
        have c3 := B1.cell 3 rfl
        clear B1
        go_wp2_with fail
        go_ret
        exact ⟨by first | rfl | simp [hm], bstep ((Below.refl _ _).alloc (Nat.le_refl _) _) hb1⟩

set_option maxHeartbeats 1000000 in
theorem loss_spec (a b c d : Int) (w : World) :
    Calls Try.prog 16 #[.agg #[.int .i64 a, .int .i64 b, .int .i64 c, .int .i64 d]] w fun e w' => e = .returned (.int .i64 (lossF a b c d)) ∧ Below w.heap.size w w' := by
  cases hv : rttOk a b c d
  · have E := Lib.hid (show lossF a b c d = 0 by simp [lossF, hv])
    rw [E.out]
    go_enter Try.func16, Try.ntmps16
    go_wp2_with fail
    refine (valid_spec _ _ _ _ _).mono ?_
    rintro e w1 ⟨rfl, hb1⟩
    have B1 := (Blk.new w #[.int .i64 a, .int .i64 b, .int .i64 c, .int .i64 d] 25).below hb1
    have c0 := B1.cell 0 rfl
    have c1 := B1.cell 1 rfl
    have c2 := B1.cell 2 rfl
    have c3 := B1.cell 3 rfl
    clear B1
    go_wp2_with fail
    go_ret
    exact ⟨rfl, bstep ((Below.refl _ _).alloc (Nat.le_refl _) _) hb1⟩
  · by_cases ha : a = 0
    · subst ha
      obtain ⟨rfl, rfl, rfl⟩ := rttOk_a hv rfl
      have E := Lib.hid (show lossF 0 0 0 0 = 112 by simp [lossF, hv, lossN])
      rw [E.out]
      go_enter Try.func16, Try.ntmps16
      go_wp2_with fail
      refine (valid_spec _ _ _ _ _).mono ?_
      rintro e w1 ⟨rfl, hb1⟩
      have B1 := (Blk.new w #[.int .i64 0, .int .i64 0, .int .i64 0, .int .i64 0] 25).below hb1
      have c0 := B1.cell 0 rfl
      have c1 := B1.cell 1 rfl
      have c2 := B1.cell 2 rfl
      have c3 := B1.cell 3 rfl
      clear B1
      go_wp2_with fail
      go_ret
      exact ⟨rfl, bstep ((Below.refl _ _).alloc (Nat.le_refl _) _) hb1⟩
    · obtain ⟨⟨h1, h2⟩, ⟨h3, h4⟩, ⟨h5, h6⟩, h7, h8⟩ := rttOk_t hv ha
      have ha' : (a == 0) = false := by simp [ha]
      by_cases hm : c / 8 < a
      all_goals
        have E := Lib.hid (show lossF a b c d = (if c / 8 < a then a else c / 8) + (if c / 8 < a then a else c / 8) / 8 by simp [lossF, hv, lossN, ha])
        rw [E.out]
        clear E
        go_enter Try.func16, Try.ntmps16
        go_wp2_with fail
        refine (valid_spec _ _ _ _ _).mono ?_
        rintro e w1 ⟨rfl, hb1⟩
        have B1 := (Blk.new w #[.int .i64 a, .int .i64 b, .int .i64 c, .int .i64 d] 25).below hb1
        have c0 := B1.cell 0 rfl
        have c1 := B1.cell 1 rfl
        have c2 := B1.cell 2 rfl
        have c3 := B1.cell 3 rfl
        clear B1
        go_wp2_with fail
        go_ret
        exact ⟨by first | rfl | simp [hm], bstep ((Below.refl _ _).alloc (Nat.le_refl _) _) hb1⟩

end Go.Proofs.Ytjgmindnjceofaa
