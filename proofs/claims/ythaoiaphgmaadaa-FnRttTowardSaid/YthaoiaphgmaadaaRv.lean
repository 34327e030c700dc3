/- Contracts of the validity of round-trip time estimates. -/
import Derived.Test.YthaoiaphgmaadaaA0
import Derived.Test.YthaoiaphgmaadaaRd
import Derived.LoopTactic
import Derived.Deep.QuietTactic
import Derived.BigQuiet
namespace Go.Proofs.Ythaoiaphgmaadaa
open Go.RowKit
set_option linter.unusedVariables false

/-- An estimate is valid. -/
def rttZ (a b c d : Int) : Bool := decide (a = 0) && decide (b = 0) && decide (c = 0) && decide (d = 0)
def rttOk (a b c d : Int) : Bool := rttZ a b c d || (inB a 1 999 && inB b 1 a && inB c 8 7999 && inB d 0 3999)

theorem rttOk_zero : rttOk 0 0 0 0 = true := by simp [rttOk, rttZ]
theorem rttOk_a {a b c d : Int} (h : rttOk a b c d = true) (ha : a = 0) : b = 0 ∧ c = 0 ∧ d = 0 := by
  subst ha
  simp [rttOk, rttZ, inB] at h
  exact ⟨h.1.1, h.1.2, h.2⟩
theorem rttOk_t {a b c d : Int} (h : rttOk a b c d = true) (ha : a ≠ 0) : (1 ≤ a ∧ a ≤ 999) ∧ (1 ≤ b ∧ b ≤ a) ∧ (8 ≤ c ∧ c ≤ 7999) ∧ (0 ≤ d ∧ d ≤ 3999) := by
  simp [rttOk, rttZ, inB, ha] at h
  omega
theorem rttOk_mk {a b c d : Int} (h : (1 ≤ a ∧ a ≤ 999) ∧ (1 ≤ b ∧ b ≤ a) ∧ (8 ≤ c ∧ c ≤ 7999) ∧ (0 ≤ d ∧ d ≤ 3999)) : rttOk a b c d = true := by
  simp [rttOk, inB]; omega

set_option maxHeartbeats 2000000 in
theorem valid_impl_zero (w : World) :
    Calls Try.prog 11 #[.agg #[.int .i64 0, .int .i64 0, .int .i64 0, .int .i64 0]] w fun e w' => e = .returned (.bool true) ∧ Below w.heap.size w w' := by
  go_enter Try.func11, Try.ntmps11
  go_wp2
  go_ret
  exact ⟨rfl, (Below.refl _ _).alloc (Nat.le_refl _) _⟩
set_option maxHeartbeats 2000000 in
theorem valid_impl (a b c d : Int) (w : World) :
    Calls Try.prog 11 #[.agg #[.int .i64 a, .int .i64 b, .int .i64 c, .int .i64 d]] w fun e w' => e = .returned (.bool (rttOk a b c d)) ∧ Below w.heap.size w w' := by
  by_cases ha : a = 0
  · subst ha
    have i1 : inB 0 1 999 = false := inB_f (by omega)
    by_cases hb : b = 0
    · subst hb
      by_cases hc : c = 0
      · subst hc
        by_cases hd : d = 0
        · subst hd
          rw [rttOk_zero]
          exact valid_impl_zero w
        · have h' : (d == 0) = false := by simp [hd]
          have E := Lib.hid (show rttOk 0 0 0 d = false by simp [rttOk, rttZ, hd, i1])
          rw [E.out]
          clear hd
          go_enter Try.func11, Try.ntmps11
          go_wp2_with (go_at_call 15; refine (within_c _ _ _ _).mono ?_; rintro e w' ⟨rfl, rfl⟩)
          go_ret
          exact ⟨rfl, (Below.refl _ _).alloc (Nat.le_refl _) _⟩
      · have h' : (c == 0) = false := by simp [hc]
        have E := Lib.hid (show rttOk 0 0 c d = false by simp [rttOk, rttZ, hc, i1])
        rw [E.out]
        clear hc
        go_enter Try.func11, Try.ntmps11
        go_wp2_with (go_at_call 15; refine (within_c _ _ _ _).mono ?_; rintro e w' ⟨rfl, rfl⟩)
        go_ret
        exact ⟨rfl, (Below.refl _ _).alloc (Nat.le_refl _) _⟩
    · have h' : (b == 0) = false := by simp [hb]
      have E := Lib.hid (show rttOk 0 b c d = false by simp [rttOk, rttZ, hb, i1])
      rw [E.out]
      clear hb
      go_enter Try.func11, Try.ntmps11
      go_wp2_with (go_at_call 15; refine (within_c _ _ _ _).mono ?_; rintro e w' ⟨rfl, rfl⟩)
      go_ret
      exact ⟨rfl, (Below.refl _ _).alloc (Nat.le_refl _) _⟩
  · have h' : (a == 0) = false := by simp [ha]
    have E := Lib.hid (show rttOk a b c d = (inB a 1 999 && inB b 1 a && inB c 8 7999 && inB d 0 3999) by simp [rttOk, rttZ, ha])
    rw [E.out]
    clear ha
    cases b1 : inB a 1 999 <;> cases b2 : inB b 1 a <;> cases b3 : inB c 8 7999 <;> cases b4 : inB d 0 3999
    all_goals
      go_enter Try.func11, Try.ntmps11
      go_wp2_with (go_at_call 15; refine (within_c _ _ _ _).mono ?_; rintro e w' ⟨rfl, rfl⟩)
      go_ret
      exact ⟨rfl, (Below.refl _ _).alloc (Nat.le_refl _) _⟩

set_option maxHeartbeats 2000000 in
theorem valid_spec_zero (w : World) :
    Calls Try.prog 16 #[.agg #[.int .i64 0, .int .i64 0, .int .i64 0, .int .i64 0]] w fun e w' => e = .returned (.bool true) ∧ Below w.heap.size w w' := by
  go_enter Try.func16, Try.ntmps16
  go_wp2
  go_ret
  exact ⟨rfl, (Below.refl _ _).alloc (Nat.le_refl _) _⟩
set_option maxHeartbeats 2000000 in
theorem valid_spec (a b c d : Int) (w : World) :
    Calls Try.prog 16 #[.agg #[.int .i64 a, .int .i64 b, .int .i64 c, .int .i64 d]] w fun e w' => e = .returned (.bool (rttOk a b c d)) ∧ Below w.heap.size w w' := by
  by_cases ha : a = 0
  · subst ha
    have i1 : inB 0 1 999 = false := inB_f (by omega)
    by_cases hb : b = 0
    · subst hb
      by_cases hc : c = 0
      · subst hc
        by_cases hd : d = 0
        · subst hd
          rw [rttOk_zero]
          exact valid_spec_zero w
        · have h' : (d == 0) = false := by simp [hd]
          have E := Lib.hid (show rttOk 0 0 0 d = false by simp [rttOk, rttZ, hd, i1])
          rw [E.out]
          clear hd
          go_enter Try.func16, Try.ntmps16
          go_wp2_with (go_at_call 17; refine (l6In_c _ _ _ _).mono ?_; rintro e w' ⟨rfl, rfl⟩)
          go_ret
          exact ⟨rfl, (Below.refl _ _).alloc (Nat.le_refl _) _⟩
      · have h' : (c == 0) = false := by simp [hc]
        have E := Lib.hid (show rttOk 0 0 c d = false by simp [rttOk, rttZ, hc, i1])
        rw [E.out]
        clear hc
        go_enter Try.func16, Try.ntmps16
        go_wp2_with (go_at_call 17; refine (l6In_c _ _ _ _).mono ?_; rintro e w' ⟨rfl, rfl⟩)
        go_ret
        exact ⟨rfl, (Below.refl _ _).alloc (Nat.le_refl _) _⟩
    · have h' : (b == 0) = false := by simp [hb]
      have E := Lib.hid (show rttOk 0 b c d = false by simp [rttOk, rttZ, hb, i1])
      rw [E.out]
      clear hb
      go_enter Try.func16, Try.ntmps16
      go_wp2_with (go_at_call 17; refine (l6In_c _ _ _ _).mono ?_; rintro e w' ⟨rfl, rfl⟩)
      go_ret
      exact ⟨rfl, (Below.refl _ _).alloc (Nat.le_refl _) _⟩
  · have h' : (a == 0) = false := by simp [ha]
    have E := Lib.hid (show rttOk a b c d = (inB a 1 999 && inB b 1 a && inB c 8 7999 && inB d 0 3999) by simp [rttOk, rttZ, ha])
    rw [E.out]
    clear ha
    cases b1 : inB a 1 999 <;> cases b2 : inB b 1 a <;> cases b3 : inB c 8 7999 <;> cases b4 : inB d 0 3999
    all_goals
      go_enter Try.func16, Try.ntmps16
      go_wp2_with (go_at_call 17; refine (l6In_c _ _ _ _).mono ?_; rintro e w' ⟨rfl, rfl⟩)
      go_ret
      exact ⟨rfl, (Below.refl _ _).alloc (Nat.le_refl _) _⟩

end Go.Proofs.Ythaoiaphgmaadaa
