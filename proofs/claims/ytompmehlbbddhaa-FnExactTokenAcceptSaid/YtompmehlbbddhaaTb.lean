/- Contracts of the acceptance of tokens. -/
import Derived.Test.YtompmehlbbddhaaTk
namespace Go.Proofs.Ytompmehlbbddhaa
open Go.RowKit
set_option linter.unusedVariables false

theorem acc_impl (s ta tt tg a now : Int) (w : World) :
    Calls Try.prog 12 #[.int .i64 s, .agg #[.int .i64 ta, .int .i64 tt, .int .i64 tg], .int .i64 a, .int .i64 now] w fun e w' =>
      e = .returned (.bool (accF s ta tt tg a now)) ∧ Below w.heap.size w w' := by
  cases b : tokOk s a now
  · have E := Lib.hid (show accF s ta tt tg a now = false by simp [accF, b])
    go_enter Try.func12, Try.ntmps12
    go_wp2_with (go_at_call 21; refine (range_impl _ _ _ _).mono ?_; rintro e w' ⟨rfl, rfl⟩)
    go_ret
    rw [E.out]
    exact ⟨rfl, (Below.refl _ _).alloc (Nat.le_refl _) _⟩
  · obtain ⟨h1, h2, h3, h3'⟩ := tokOk_t b
    by_cases c1 : ta = a
    · subst c1
      by_cases c2 : 0 ≤ tt ∧ tt ≤ now
      · have b2 := inB_t c2
        obtain ⟨c21, c22⟩ := c2
        by_cases c3 : now ≤ tt + 20
        · have E := Lib.hid (show accF s ta tt tg ta now = (tg == tagF s ta tt) by rw [Bool.eq_iff_iff]; simp [accF, b, b2, c3])
          have HT := Lib.hid (fun W => tag_impl s ta tt W h1 h2 ⟨c21, by omega⟩)
          clear h1 h2
          go_enter Try.func12, Try.ntmps12
          go_wp2_with (first | (go_at_call 21; refine (range_impl _ _ _ _).mono ?_; rintro e w' ⟨rfl, rfl⟩) | (go_at_call 22; refine (within_c _ _ _ _).mono ?_; rintro e w' ⟨rfl, rfl⟩))
          go_quiet ((go_at_call 23; exact quiet_left (HT.out _)))
          go_wp2
          go_ret
          rw [E.out]
          exact ⟨rfl, ((Below.refl _ _).alloc (Nat.le_refl _) _).trans ⟨rfl, rfl, rfl, Nat.le_refl _, fun _ _ => rfl⟩⟩
        · have E := Lib.hid (show accF s ta tt tg ta now = false by simp [accF, c3])
          have c3' : tt + 20 < now := by omega
          clear h1 h2
          go_enter Try.func12, Try.ntmps12
          go_wp2_with (first | (go_at_call 21; refine (range_impl _ _ _ _).mono ?_; rintro e w' ⟨rfl, rfl⟩) | (go_at_call 22; refine (within_c _ _ _ _).mono ?_; rintro e w' ⟨rfl, rfl⟩))
          go_ret
          rw [E.out]
          exact ⟨rfl, (Below.refl _ _).alloc (Nat.le_refl _) _⟩
      · have b2 := inB_f c2
        have E := Lib.hid (show accF s ta tt tg ta now = false by simp [accF, b2])
        clear h1 h2 c2
        go_enter Try.func12, Try.ntmps12
        go_wp2_with (first | (go_at_call 21; refine (range_impl _ _ _ _).mono ?_; rintro e w' ⟨rfl, rfl⟩) | (go_at_call 22; refine (within_c _ _ _ _).mono ?_; rintro e w' ⟨rfl, rfl⟩))
        go_ret
        rw [E.out]
        exact ⟨rfl, (Below.refl _ _).alloc (Nat.le_refl _) _⟩
    · have E := Lib.hid (show accF s ta tt tg a now = false by simp [accF, c1])
      have c1' : (ta != a) = true := by simp [c1]
      clear h1 h2 c1
      go_enter Try.func12, Try.ntmps12
      go_wp2_with (first | (go_at_call 21; refine (range_impl _ _ _ _).mono ?_; rintro e w' ⟨rfl, rfl⟩) | (go_at_call 22; refine (within_c _ _ _ _).mono ?_; rintro e w' ⟨rfl, rfl⟩))
      go_ret
      rw [E.out]
      exact ⟨rfl, (Below.refl _ _).alloc (Nat.le_refl _) _⟩

theorem args_v (v : Bool) {s a t : Int} (h : tokOk s a t = v) (w : World) :
    Calls Try.prog 18 #[.int .i64 s, .int .i64 a, .int .i64 t] w fun e w' => e = .returned (.bool v) ∧ w = w' := h ▸ args_spec s a t w

theorem acc_spec0 (s ta tt tg a now : Int) (w : World) (b : tokOk s a now = false) :
    Calls Try.prog 10 #[.int .i64 s, .agg #[.int .i64 ta, .int .i64 tt, .int .i64 tg], .int .i64 a, .int .i64 now] w fun e w' =>
      e = .returned (.bool false) ∧ Below w.heap.size w w' := by
  have HA := Lib.hid (fun W => args_v false b W)
  clear b
  go_enter Try.func10, Try.ntmps10
  go_wp2
  go_quiet ((go_at_call 18; exact quiet_left (HA.out _)))
  go_wp2
  go_ret
  exact ⟨rfl, ((Below.refl _ _).alloc (Nat.le_refl _) _).trans ⟨rfl, rfl, rfl, Nat.le_refl _, fun _ _ => rfl⟩⟩
theorem acc_spec1 (s ta tt tg a now : Int) (w : World) (b : tokOk s a now = true) (c : (ta == a) = false) :
    Calls Try.prog 10 #[.int .i64 s, .agg #[.int .i64 ta, .int .i64 tt, .int .i64 tg], .int .i64 a, .int .i64 now] w fun e w' =>
      e = .returned (.bool false) ∧ Below w.heap.size w w' := by
  have HA := Lib.hid (fun W => args_v true b W)
  clear b
  go_enter Try.func10, Try.ntmps10
  go_wp2
  go_quiet ((first | (go_at_call 18; exact quiet_left (HA.out _))))
  go_wp2
  go_ret
  exact ⟨rfl, ((Below.refl _ _).alloc (Nat.le_refl _) _).trans ⟨rfl, rfl, rfl, Nat.le_refl _, fun _ _ => rfl⟩⟩

theorem acc_spec2 (s tt tg a now : Int) (w : World) (b : tokOk s a now = true) (c : inB tt 0 now = false) :
    Calls Try.prog 10 #[.int .i64 s, .agg #[.int .i64 a, .int .i64 tt, .int .i64 tg], .int .i64 a, .int .i64 now] w fun e w' =>
      e = .returned (.bool false) ∧ Below w.heap.size w w' := by
  have HA := Lib.hid (fun W => args_v true b W)
  have HI := Lib.hid (fun W => l6In_v false c W)
  clear b c
  go_enter Try.func10, Try.ntmps10
  go_wp2
  go_quiet ((first | (go_at_call 18; exact quiet_left (HA.out _)) | (go_at_call 19; exact quiet_left (HI.out _))))
  go_wp2
  go_ret
  exact ⟨rfl, ((Below.refl _ _).alloc (Nat.le_refl _) _).trans ⟨rfl, rfl, rfl, Nat.le_refl _, fun _ _ => rfl⟩⟩

theorem acc_spec3 (s tt tg a now : Int) (w : World) (b : tokOk s a now = true) (c : 0 ≤ tt ∧ tt ≤ now) (d : tt + 20 < now) :
    Calls Try.prog 10 #[.int .i64 s, .agg #[.int .i64 a, .int .i64 tt, .int .i64 tg], .int .i64 a, .int .i64 now] w fun e w' =>
      e = .returned (.bool false) ∧ Below w.heap.size w w' := by
  have HA := Lib.hid (fun W => args_v true b W)
  have HI := Lib.hid (fun W => l6In_v true (inB_t c) W)
  obtain ⟨c1, c2⟩ := c
  obtain ⟨_, _, h3, h4⟩ := tokOk_t b
  have e : IntKind.i64.wrap (tt + 20) = tt + 20 := IntWalk.i64_in _ (by omega)
  have d' : decide (now ≤ tt + 20) = false := by simp; omega
  clear b
  go_enter Try.func10, Try.ntmps10
  go_wp2
  go_quiet ((first | (go_at_call 18; exact quiet_left (HA.out _)) | (go_at_call 19; exact quiet_left (HI.out _))))
  go_wp2
  go_ret
  exact ⟨rfl, ((Below.refl _ _).alloc (Nat.le_refl _) _).trans ⟨rfl, rfl, rfl, Nat.le_refl _, fun _ _ => rfl⟩⟩

theorem acc_spec4 (s tt tg a now : Int) (w : World) (b : tokOk s a now = true) (c : 0 ≤ tt ∧ tt ≤ now) (d : now ≤ tt + 20) :
    Calls Try.prog 10 #[.int .i64 s, .agg #[.int .i64 a, .int .i64 tt, .int .i64 tg], .int .i64 a, .int .i64 now] w fun e w' =>
      e = .returned (.bool (tg == tagF s a tt)) ∧ Below w.heap.size w w' := by
  have HA := Lib.hid (fun W => args_v true b W)
  have HI := Lib.hid (fun W => l6In_v true (inB_t c) W)
  obtain ⟨c1, c2⟩ := c
  obtain ⟨h1, h2, h3, h4⟩ := tokOk_t b
  have HT := Lib.hid (fun W => tag_spec s a tt W h1 h2 ⟨c1, by omega⟩)
  have e : IntKind.i64.wrap (tt + 20) = tt + 20 := IntWalk.i64_in _ (by omega)
  have d' : decide (now ≤ tt + 20) = true := by simp; omega
  clear b h1 h2
  go_enter Try.func10, Try.ntmps10
  go_wp2
  go_quiet ((first | (go_at_call 18; exact quiet_left (HA.out _)) | (go_at_call 19; exact quiet_left (HI.out _)) | (go_at_call 20; exact quiet_left (HT.out _))))
  go_wp2
  go_ret
  exact ⟨rfl, ((Below.refl _ _).alloc (Nat.le_refl _) _).trans ⟨rfl, rfl, rfl, Nat.le_refl _, fun _ _ => rfl⟩⟩

theorem acc_spec (s ta tt tg a now : Int) (w : World) :
    Calls Try.prog 10 #[.int .i64 s, .agg #[.int .i64 ta, .int .i64 tt, .int .i64 tg], .int .i64 a, .int .i64 now] w fun e w' =>
      e = .returned (.bool (accF s ta tt tg a now)) ∧ Below w.heap.size w w' := by
  cases b : tokOk s a now
  · have E : accF s ta tt tg a now = false := by simp [accF, b]
    rw [E]; exact acc_spec0 _ _ _ _ _ _ _ b
  · by_cases c1 : ta = a
    · subst c1
      by_cases c2 : 0 ≤ tt ∧ tt ≤ now
      · have b2 := inB_t c2
        by_cases c3 : now ≤ tt + 20
        · have E : accF s ta tt tg ta now = (tg == tagF s ta tt) := by rw [Bool.eq_iff_iff]; simp [accF, b, b2, c3]
          rw [E]; exact acc_spec4 _ _ _ _ _ _ b c2 c3
        · have E : accF s ta tt tg ta now = false := by simp [accF, c3]
          rw [E]; exact acc_spec3 _ _ _ _ _ _ b c2 (by omega)
      · have E : accF s ta tt tg ta now = false := by simp [accF, inB_f c2]
        rw [E]; exact acc_spec2 _ _ _ _ _ _ b (inB_f c2)
    · have E : accF s ta tt tg a now = false := by simp [accF, c1]
      rw [E]; exact acc_spec1 _ _ _ _ _ _ _ b (by simp [c1])
end Go.Proofs.Ytompmehlbbddhaa
