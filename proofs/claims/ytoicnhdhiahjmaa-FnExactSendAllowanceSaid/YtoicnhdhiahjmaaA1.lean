/- Contracts of the range tests and of the send allowance. -/
import Derived.Test.YtoicnhdhiahjmaaRows
import Derived.WalkKit
import Derived.Lib.Hide
namespace Go.Proofs.Ytoicnhdhiahjmaa
open Go.RowKit
set_option linter.unusedVariables false

/-- A number within bounds, under a name that the walk does not open. -/
def inB (n lo hi : Int) : Bool := decide (lo ≤ n) && decide (n ≤ hi)
theorem inB_t {n lo hi : Int} (h : lo ≤ n ∧ n ≤ hi) : inB n lo hi = true := by simp [inB, h]
theorem inB_f {n lo hi : Int} (h : ¬ (lo ≤ n ∧ n ≤ hi)) : inB n lo hi = false := by simp [inB]; omega

theorem within_c (n lo hi : Int) (w : World) :
    Calls Try.prog 13 #[.int .i64 n, .int .i64 lo, .int .i64 hi] w fun e w' => e = .returned (.bool (inB n lo hi)) ∧ w = w' := by
  by_cases h1 : lo ≤ n <;> by_cases h2 : n ≤ hi
  all_goals
    go_enter Try.func13, Try.ntmps13
    go_wp2
    go_ret
    exact ⟨by simp [inB, h1, h2], rfl⟩
theorem within_t (n lo hi : Int) (w : World) (h : lo ≤ n ∧ n ≤ hi) :
    Calls Try.prog 13 #[.int .i64 n, .int .i64 lo, .int .i64 hi] w fun e w' => e = .returned (.bool true) ∧ w = w' := by
  have := within_c n lo hi w; rw [inB_t h] at this; exact this
theorem within_f (n lo hi : Int) (w : World) (h : ¬ (lo ≤ n ∧ n ≤ hi)) :
    Calls Try.prog 13 #[.int .i64 n, .int .i64 lo, .int .i64 hi] w fun e w' => e = .returned (.bool false) ∧ w = w' := by
  have := within_c n lo hi w; rw [inB_f h] at this; exact this

theorem l6In_c (n lo hi : Int) (w : World) :
    Calls Try.prog 12 #[.int .i64 n, .int .i64 lo, .int .i64 hi] w fun e w' => e = .returned (.bool (inB n lo hi)) ∧ w = w' := by
  by_cases h1 : lo ≤ n <;> by_cases h2 : n ≤ hi
  all_goals
    go_enter Try.func12, Try.ntmps12
    go_wp2
    go_ret
    exact ⟨by simp [inB, h1, h2], rfl⟩
theorem l6In_t (n lo hi : Int) (w : World) (h : lo ≤ n ∧ n ≤ hi) :
    Calls Try.prog 12 #[.int .i64 n, .int .i64 lo, .int .i64 hi] w fun e w' => e = .returned (.bool true) ∧ w = w' := by
  have := l6In_c n lo hi w; rw [inB_t h] at this; exact this
theorem l6In_f (n lo hi : Int) (w : World) (h : ¬ (lo ≤ n ∧ n ≤ hi)) :
    Calls Try.prog 12 #[.int .i64 n, .int .i64 lo, .int .i64 hi] w fun e w' => e = .returned (.bool false) ∧ w = w' := by
  have := l6In_c n lo hi w; rw [inB_f h] at this; exact this

/-- What may be sent. -/
def allowF (r s : Int) (v : Bool) : Int :=
  if inB r 0 9999 = true ∧ inB s 0 9999 = true then (if v then 9999 - s else min (max 0 (3 * r - s)) (9999 - s)) else 0

theorem allow_impl (r s : Int) (v : Bool) (w : World) :
    Calls Try.prog 10 #[.int .i64 r, .int .i64 s, .bool v] w fun e w' => e = .returned (.int .i64 (allowF r s v)) ∧ w = w' := by
  by_cases h1 : 0 ≤ r ∧ r ≤ 9999
  · have b1 := inB_t h1
    by_cases h2 : 0 ≤ s ∧ s ≤ 9999
    · have b2 := inB_t h2
      have E := Lib.hid (show allowF r s v = (if v then 9999 - s else min (max 0 (3 * r - s)) (9999 - s)) by simp [allowF, b1, b2])
      obtain ⟨h11, h12⟩ := h1
      obtain ⟨h21, h22⟩ := h2
      cases v
      all_goals
        go_enter Try.func10, Try.ntmps10
        go_wp2_with (go_at_call 13; refine (within_c _ _ _ _).mono ?_; rintro e w' ⟨rfl, rfl⟩)
      all_goals
        go_ret
        rw [E.out]
        exact ⟨by simp <;> omega, rfl⟩
    · have b2 := inB_f h2
      have E := Lib.hid (show allowF r s v = 0 by simp [allowF, b2])
      clear h1 h2
      go_enter Try.func10, Try.ntmps10
      go_wp2_with (go_at_call 13; refine (within_c _ _ _ _).mono ?_; rintro e w' ⟨rfl, rfl⟩)
      go_ret
      rw [E.out]
      exact ⟨rfl, rfl⟩
  · have b1 := inB_f h1
    have E := Lib.hid (show allowF r s v = 0 by simp [allowF, b1])
    clear h1
    go_enter Try.func10, Try.ntmps10
    go_wp2_with (go_at_call 13; refine (within_c _ _ _ _).mono ?_; rintro e w' ⟨rfl, rfl⟩)
    go_ret
    rw [E.out]
    exact ⟨rfl, rfl⟩

theorem allow_spec (r s : Int) (v : Bool) (w : World) :
    Calls Try.prog 9 #[.int .i64 r, .int .i64 s, .bool v] w fun e w' => e = .returned (.int .i64 (allowF r s v)) ∧ w = w' := by
  by_cases h1 : 0 ≤ r ∧ r ≤ 9999
  · have b1 := inB_t h1
    by_cases h2 : 0 ≤ s ∧ s ≤ 9999
    · have b2 := inB_t h2
      have E := Lib.hid (show allowF r s v = (if v then 9999 - s else min (max 0 (3 * r - s)) (9999 - s)) by simp [allowF, b1, b2])
      obtain ⟨h11, h12⟩ := h1
      obtain ⟨h21, h22⟩ := h2
      cases v
      all_goals
        go_enter Try.func9, Try.ntmps9
        go_wp2_with (go_at_call 12; refine (l6In_c _ _ _ _).mono ?_; rintro e w' ⟨rfl, rfl⟩)
      all_goals
        go_ret
        rw [E.out]
        exact ⟨by simp <;> omega, rfl⟩
    · have b2 := inB_f h2
      have E := Lib.hid (show allowF r s v = 0 by simp [allowF, b2])
      clear h1 h2
      go_enter Try.func9, Try.ntmps9
      go_wp2_with (go_at_call 12; refine (l6In_c _ _ _ _).mono ?_; rintro e w' ⟨rfl, rfl⟩)
      go_ret
      rw [E.out]
      exact ⟨rfl, rfl⟩
  · have b1 := inB_f h1
    have E := Lib.hid (show allowF r s v = 0 by simp [allowF, b1])
    clear h1
    go_enter Try.func9, Try.ntmps9
    go_wp2_with (go_at_call 12; refine (l6In_c _ _ _ _).mono ?_; rintro e w' ⟨rfl, rfl⟩)
    go_ret
    rw [E.out]
    exact ⟨rfl, rfl⟩

end Go.Proofs.Ytoicnhdhiahjmaa
