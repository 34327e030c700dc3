/- Contracts of the send allowance. -/
import Derived.Test.YtoicnhdhiahjmaaA0
namespace Go.Proofs.Ytoicnhdhiahjmaa
open Go.RowKit
set_option linter.unusedVariables false

/-- What may be sent. -/
def allowF (r s : Int) (v : Bool) : Int :=
  if inB r 0 9999 = true ∧ inB s 0 9999 = true then (if v then 9999 - s else min (max 0 (3 * r - s)) (9999 - s)) else 0

theorem allowF_nonneg (r s : Int) (v : Bool) : 0 ≤ allowF r s v := by unfold allowF inB; simp; split <;> (try split) <;> omega
theorem allowF_le (r s : Int) (v : Bool) : allowF r s v ≤ 9999 := by unfold allowF inB; simp; split <;> (try split) <;> omega
theorem allowF_three (r s : Int) (h : ¬ allowF r s false = 0) : s + allowF r s false ≤ 3 * r := by revert h; unfold allowF inB; simp; split <;> (try split) <;> omega
theorem allowF_more (r s : Int) : allowF r s false ≤ allowF r s true := by unfold allowF inB; simp; split <;> (try split) <;> omega
theorem allowF_full (r s : Int) (h1 : 0 ≤ r) (h2 : r ≤ 9999) (h3 : 0 ≤ s) (h4 : s ≤ 9999) : allowF r s true = 9999 - s := by unfold allowF inB; simp; omega
theorem allowF_spend (r s : Int) (v : Bool) (n : Int) (h1 : 0 ≤ n) (h2 : n ≤ allowF r s v) (h : ¬ allowF r s v = 0) : allowF r (s + n) v = allowF r s v - n := by
  revert h h2; unfold allowF inB; simp; cases v <;> simp <;> split <;> split <;> omega
theorem allowF_receive (r s : Int) (v : Bool) (n : Int) (h0 : 0 ≤ r) (h1 : 0 ≤ n) (h2 : r + n ≤ 9999) : allowF r s v ≤ allowF (r + n) s v := by
  unfold allowF inB; simp; cases v <;> simp <;> split <;> split <;> omega

theorem allow_impl (r s : Int) (v : Bool) (w : World) :
    Calls Try.prog 10 #[.int .i64 r, .int .i64 s, .bool v] w fun e w' => e = .returned (.int .i64 (allowF r s v)) ∧ w = w' := by
  by_cases h1 : 0 ≤ r ∧ r ≤ 9999
  · have b1 := inB_t h1
    by_cases h2 : 0 ≤ s ∧ s ≤ 9999
    · have b2 := inB_t h2
      have E := Lib.hid (show allowF r s v = (if v then 9999 - s else min (max 0 (3 * r - s)) (9999 - s)) by simp [allowF, b1, b2])
      obtain ⟨h11, h12⟩ := h1
      obtain ⟨h21, h22⟩ := h2
      cases v
      all_goals
        go_enter Try.func10, Try.ntmps10
        go_wp2_with (go_at_call 13; refine (within_c _ _ _ _).mono ?_; rintro e w' ⟨rfl, rfl⟩)
      all_goals
        go_ret
        rw [E.out]
        exact ⟨by simp <;> omega, rfl⟩
    · have b2 := inB_f h2
      have E := Lib.hid (show allowF r s v = 0 by simp [allowF, b2])
      clear h1 h2
      go_enter Try.func10, Try.ntmps10
      go_wp2_with (go_at_call 13; refine (within_c _ _ _ _).mono ?_; rintro e w' ⟨rfl, rfl⟩)
      go_ret
      rw [E.out]
      exact ⟨rfl, rfl⟩
  · have b1 := inB_f h1
    have E := Lib.hid (show allowF r s v = 0 by simp [allowF, b1])
    clear h1
    go_enter Try.func10, Try.ntmps10
    go_wp2_with (go_at_call 13; refine (within_c _ _ _ _).mono ?_; rintro e w' ⟨rfl, rfl⟩)
    go_ret
    rw [E.out]
    exact ⟨rfl, rfl⟩

theorem allow_spec (r s : Int) (v : Bool) (w : World) :
    Calls Try.prog 9 #[.int .i64 r, .int .i64 s, .bool v] w fun e w' => e = .returned (.int .i64 (allowF r s v)) ∧ w = w' := by
  by_cases h1 : 0 ≤ r ∧ r ≤ 9999
  · have b1 := inB_t h1
    by_cases h2 : 0 ≤ s ∧ s ≤ 9999
    · have b2 := inB_t h2
      have E := Lib.hid (show allowF r s v = (if v then 9999 - s else min (max 0 (3 * r - s)) (9999 - s)) by simp [allowF, b1, b2])
      obtain ⟨h11, h12⟩ := h1
      obtain ⟨h21, h22⟩ := h2
      cases v
      all_goals
        go_enter Try.func9, Try.ntmps9
        go_wp2_with (go_at_call 12; refine (l6In_c _ _ _ _).mono ?_; rintro e w' ⟨rfl, rfl⟩)
      all_goals
        go_ret
        rw [E.out]
        exact ⟨by simp <;> omega, rfl⟩
    · have b2 := inB_f h2
      have E := Lib.hid (show allowF r s v = 0 by simp [allowF, b2])
      clear h1 h2
      go_enter Try.func9, Try.ntmps9
      go_wp2_with (go_at_call 12; refine (l6In_c _ _ _ _).mono ?_; rintro e w' ⟨rfl, rfl⟩)
      go_ret
      rw [E.out]
      exact ⟨rfl, rfl⟩
  · have b1 := inB_f h1
    have E := Lib.hid (show allowF r s v = 0 by simp [allowF, b1])
    clear h1
    go_enter Try.func9, Try.ntmps9
    go_wp2_with (go_at_call 12; refine (l6In_c _ _ _ _).mono ?_; rintro e w' ⟨rfl, rfl⟩)
    go_ret
    rw [E.out]
    exact ⟨rfl, rfl⟩

end Go.Proofs.Ytoicnhdhiahjmaa
