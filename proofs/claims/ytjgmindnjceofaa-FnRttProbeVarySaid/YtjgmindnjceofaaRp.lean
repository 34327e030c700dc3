/- Contracts of the probe timeout. -/
import Derived.Test.YtjgmindnjceofaaRl
namespace Go.Proofs.Ytjgmindnjceofaa
open Go.RowKit
set_option linter.unusedVariables false

set_option maxHeartbeats 2000000 in
theorem probe_impl_no (a b c d k : Int) (w : World) (hv : rttOk a b c d = false) :
    Calls Try.prog 19 #[.agg #[.int .i64 a, .int .i64 b, .int .i64 c, .int .i64 d], .int .i64 k] w fun e w' => e = .returned (.int .i64 0) ∧ Below w.heap.size w w' := by
  go_enter Try.func19, Try.ntmps19
  go_wp2_with fail
  refine (valid_impl _ _ _ _ _).mono ?_
  rintro e w1 ⟨rfl, hb1⟩
  have B1 := (Blk.new w #[.int .i64 a, .int .i64 b, .int .i64 c, .int .i64 d] 25).below hb1
  have c0 := B1.cell 0 rfl
  have c1 := B1.cell 1 rfl
  have c2 := B1.cell 2 rfl
  have c3 := B1.cell 3 rfl
  clear B1
  go_wp2_with fail
  go_ret
  exact ⟨rfl, bstep ((Below.refl _ _).alloc (Nat.le_refl _) _) hb1⟩
set_option maxHeartbeats 2000000 in
theorem probe_impl_out (a b c d k : Int) (w : World) (hv : rttOk a b c d = true) (hk : inB k 0 6 = false) :
    Calls Try.prog 19 #[.agg #[.int .i64 a, .int .i64 b, .int .i64 c, .int .i64 d], .int .i64 k] w fun e w' => e = .returned (.int .i64 0) ∧ Below w.heap.size w w' := by
  go_enter Try.func19, Try.ntmps19
  go_wp2_with fail
  refine (valid_impl _ _ _ _ _).mono ?_
  rintro e w1 ⟨rfl, hb1⟩
  have B1 := (Blk.new w #[.int .i64 a, .int .i64 b, .int .i64 c, .int .i64 d] 25).below hb1
  have c0 := B1.cell 0 rfl
  have c1 := B1.cell 1 rfl
  have c2 := B1.cell 2 rfl
  have c3 := B1.cell 3 rfl
  clear B1
  go_wp2_with (go_at_call 26; refine (within_c _ _ _ _).mono ?_; rintro e w' ⟨rfl, rfl⟩)
  go_ret
  exact ⟨rfl, bstep ((Below.refl _ _).alloc (Nat.le_refl _) _) hb1⟩
set_option maxHeartbeats 2000000 in
theorem probe_impl_zero (k : Nat) (w : World) (hk : k ≤ 6) :
    Calls Try.prog 19 #[.agg #[.int .i64 0, .int .i64 0, .int .i64 0, .int .i64 0], .int .i64 k] w fun e w' => e = .returned (.int .i64 (dblK 100 k)) ∧ Below w.heap.size w w' := by
  have hv := rttOk_zero
  have hi : inB k 0 6 = true := inB_t (by omega)
  rcases show k = 0 ∨ k = 1 ∨ k = 2 ∨ k = 3 ∨ k = 4 ∨ k = 5 ∨ k = 6 by omega with rfl | rfl | rfl | rfl | rfl | rfl | rfl
  all_goals
    go_enter Try.func19, Try.ntmps19
    go_wp2_with fail
    refine (valid_impl _ _ _ _ _).mono ?_
    rintro e w1 ⟨rfl, hb1⟩
    have B1 := (Blk.new w #[.int .i64 0, .int .i64 0, .int .i64 0, .int .i64 0] 25).below hb1
    have c0 := B1.cell 0 rfl
    have c1 := B1.cell 1 rfl
    have c2 := B1.cell 2 rfl
    have c3 := B1.cell 3 rfl
    clear B1
    go_wp2_with (go_at_call 26; refine (within_c _ _ _ _).mono ?_; rintro e w' ⟨rfl, rfl⟩)
    go_ret
    exact ⟨by first | rfl | simp [dblK], bstep ((Below.refl _ _).alloc (Nat.le_refl _) _) hb1⟩
set_option maxHeartbeats 2000000 in
theorem probe_impl_yes (a b c d : Int) (k : Nat) (w : World) (hv : rttOk a b c d = true) (hk : k ≤ 6) (ha : a ≠ 0) :
    Calls Try.prog 19 #[.agg #[.int .i64 a, .int .i64 b, .int .i64 c, .int .i64 d], .int .i64 k] w fun e w' => e = .returned (.int .i64 (dblK (c / 8 + if d < 1 then 1 else d) k)) ∧ Below w.heap.size w w' := by
  obtain ⟨⟨h1, h2⟩, ⟨h3, h4⟩, ⟨h5, h6⟩, h7, h8⟩ := rttOk_t hv ha
  have ha' : (a == 0) = false := by simp [ha]
  have hi : inB k 0 6 = true := inB_t (by omega)
  clear ha
  by_cases hd : d < 1
  all_goals
    first | rw [if_pos (by omega)] | rw [if_neg (by omega)]
    rcases show k = 0 ∨ k = 1 ∨ k = 2 ∨ k = 3 ∨ k = 4 ∨ k = 5 ∨ k = 6 by omega with rfl | rfl | rfl | rfl | rfl | rfl | rfl
  all_goals
    go_enter Try.func19, Try.ntmps19
    go_wp2_with fail
    refine (valid_impl _ _ _ _ _).mono ?_
    rintro e w1 ⟨rfl, hb1⟩
    have B1 := (Blk.new w #[.int .i64 a, .int .i64 b, .int .i64 c, .int .i64 d] 25).below hb1
    have c0 := B1.cell 0 rfl
    have c1 := B1.cell 1 rfl
    have c2 := B1.cell 2 rfl
    have c3 := B1.cell 3 rfl
    clear B1
    go_wp2_with (go_at_call 26; refine (within_c _ _ _ _).mono ?_; rintro e w' ⟨rfl, rfl⟩)
    go_ret
    exact ⟨by first | rfl | (simp [dblK] <;> omega), bstep ((Below.refl _ _).alloc (Nat.le_refl _) _) hb1⟩
set_option maxHeartbeats 2000000 in
theorem probe_impl (a b c d k : Int) (w : World) :
    Calls Try.prog 19 #[.agg #[.int .i64 a, .int .i64 b, .int .i64 c, .int .i64 d], .int .i64 k] w fun e w' => e = .returned (.int .i64 (probeF a b c d k)) ∧ Below w.heap.size w w' := by
  cases hv : rttOk a b c d
  · have E : probeF a b c d k = 0 := by simp [probeF, hv]
    rw [E]; exact probe_impl_no a b c d k w hv
  · by_cases hk : 0 ≤ k ∧ k ≤ 6
    · obtain ⟨K, rfl⟩ := Int.eq_ofNat_of_zero_le hk.1
      by_cases ha : a = 0
      · subst ha
        obtain ⟨rfl, rfl, rfl⟩ := rttOk_a hv rfl
        have E : probeF 0 0 0 0 K = dblK 100 K := by simp [probeF, hv, inB_t hk, probeN]
        rw [E]; exact probe_impl_zero K w (by omega)
      · have E : probeF a b c d K = dblK (c / 8 + if d < 1 then 1 else d) K := by simp [probeF, hv, inB_t hk, probeN, ha]
        rw [E]; exact probe_impl_yes a b c d K w hv (by omega) ha
    · have E : probeF a b c d k = 0 := by simp [probeF, inB_f hk]
      rw [E]; exact probe_impl_out a b c d k w hv (inB_f hk)

set_option maxHeartbeats 2000000 in
theorem probe_spec_no (a b c d k : Int) (w : World) (hv : rttOk a b c d = false) :
    Calls Try.prog 18 #[.agg #[.int .i64 a, .int .i64 b, .int .i64 c, .int .i64 d], .int .i64 k] w fun e w' => e = .returned (.int .i64 0) ∧ Below w.heap.size w w' := by
  go_enter Try.func18, Try.ntmps18
  go_wp2_with fail
  refine (valid_spec _ _ _ _ _).mono ?_
  rintro e w1 ⟨rfl, hb1⟩
  have B1 := (Blk.new w #[.int .i64 a, .int .i64 b, .int .i64 c, .int .i64 d] 25).below hb1
  have c0 := B1.cell 0 rfl
  have c1 := B1.cell 1 rfl
  have c2 := B1.cell 2 rfl
  have c3 := B1.cell 3 rfl
  clear B1
  go_wp2_with fail
  go_ret
  exact ⟨rfl, bstep ((Below.refl _ _).alloc (Nat.le_refl _) _) hb1⟩
set_option maxHeartbeats 2000000 in
theorem probe_spec_out (a b c d k : Int) (w : World) (hv : rttOk a b c d = true) (hk : inB k 0 6 = false) :
    Calls Try.prog 18 #[.agg #[.int .i64 a, .int .i64 b, .int .i64 c, .int .i64 d], .int .i64 k] w fun e w' => e = .returned (.int .i64 0) ∧ Below w.heap.size w w' := by
  go_enter Try.func18, Try.ntmps18
  go_wp2_with fail
  refine (valid_spec _ _ _ _ _).mono ?_
  rintro e w1 ⟨rfl, hb1⟩
  have B1 := (Blk.new w #[.int .i64 a, .int .i64 b, .int .i64 c, .int .i64 d] 25).below hb1
  have c0 := B1.cell 0 rfl
  have c1 := B1.cell 1 rfl
  have c2 := B1.cell 2 rfl
  have c3 := B1.cell 3 rfl
  clear B1
  go_wp2_with (go_at_call 25; refine (l6In_c _ _ _ _).mono ?_; rintro e w' ⟨rfl, rfl⟩)
  go_ret
  exact ⟨rfl, bstep ((Below.refl _ _).alloc (Nat.le_refl _) _) hb1⟩
set_option maxHeartbeats 2000000 in
theorem probe_spec_zero (k : Nat) (w : World) (hk : k ≤ 6) :
    Calls Try.prog 18 #[.agg #[.int .i64 0, .int .i64 0, .int .i64 0, .int .i64 0], .int .i64 k] w fun e w' => e = .returned (.int .i64 (dblK 100 k)) ∧ Below w.heap.size w w' := by
  have hv := rttOk_zero
  have hi : inB k 0 6 = true := inB_t (by omega)
  go_enter Try.func18, Try.ntmps18
  go_wp2_with fail
  refine (valid_spec _ _ _ _ _).mono ?_
  rintro e w1 ⟨rfl, hb1⟩
  have B1 := (Blk.new w #[.int .i64 0, .int .i64 0, .int .i64 0, .int .i64 0] 25).below hb1
  have c0 := B1.cell 0 rfl
  have c1 := B1.cell 1 rfl
  have c2 := B1.cell 2 rfl
  have c3 := B1.cell 3 rfl
  clear B1
  go_wp2_with (go_at_call 25; refine (l6In_c _ _ _ _).mono ?_; rintro e w' ⟨rfl, rfl⟩)
  go_loop [5, 6] (fun n i => ∃ j : Nat, j ≤ k ∧ i = .int .i64 j ∧ n = .int .i64 (dblK 100 j)) (fun _ i => k - (intOf i).toNat)
  case atStart => exact ⟨0, by omega, rfl, rfl⟩
  case round =>
    obtain ⟨j, hj, rfl, rfl⟩ := hrel
    obtain ⟨b1, b2⟩ := dblK_bd 100 (by omega) (by omega) j (by omega)
    by_cases hlt : j < k
    · have hi : (j : Int) < (k : Int) := by omega
      go_wp2
      go_round
      case rel => exact ⟨j + 1, by omega, by go_num, rfl⟩
      case measure => simp [intOf]; omega
    · obtain rfl : j = k := by omega
      go_wp2
      go_ret
      exact ⟨rfl, bstep ((Below.refl _ _).alloc (Nat.le_refl _) _) hb1⟩
set_option maxHeartbeats 2000000 in
theorem probe_spec_yes (a b c d : Int) (k : Nat) (w : World) (hv : rttOk a b c d = true) (hk : k ≤ 6) (ha : a ≠ 0) :
    Calls Try.prog 18 #[.agg #[.int .i64 a, .int .i64 b, .int .i64 c, .int .i64 d], .int .i64 k] w fun e w' => e = .returned (.int .i64 (dblK (c / 8 + if d < 1 then 1 else d) k)) ∧ Below w.heap.size w w' := by
  obtain ⟨⟨h1, h2⟩, ⟨h3, h4⟩, ⟨h5, h6⟩, h7, h8⟩ := rttOk_t hv ha
  have ha' : 0 < a := by omega
  have hi : inB k 0 6 = true := inB_t (by omega)
  obtain ⟨N, hN⟩ : ∃ N : Int, N = c / 8 + if d < 1 then 1 else d := ⟨_, rfl⟩
  rw [← hN]
  have hN1 : 0 ≤ N ∧ N ≤ 5000 := by rw [hN]; split <;> omega
  have HN := Lib.hid hN
  clear hN ha
  obtain ⟨hN1, hN2⟩ := hN1
  by_cases hd : d < 1
  all_goals
    go_enter Try.func18, Try.ntmps18
    go_wp2_with fail
    refine (valid_spec _ _ _ _ _).mono ?_
    rintro e w1 ⟨rfl, hb1⟩
    have B1 := (Blk.new w #[.int .i64 a, .int .i64 b, .int .i64 c, .int .i64 d] 25).below hb1
    have c0 := B1.cell 0 rfl
    have c1 := B1.cell 1 rfl
    have c2 := B1.cell 2 rfl
    have c3 := B1.cell 3 rfl
    clear B1
    go_wp2_with (go_at_call 25; refine (l6In_c _ _ _ _).mono ?_; rintro e w' ⟨rfl, rfl⟩)
    go_loop [5, 6] (fun n i => ∃ j : Nat, j ≤ k ∧ i = .int .i64 j ∧ n = .int .i64 (dblK N j)) (fun _ i => k - (intOf i).toNat)
    case atStart => exact ⟨0, by omega, rfl, by rw [HN.out]; first | (rw [if_pos (by omega)]; rfl) | (rw [if_neg (by omega)]; rfl)⟩
    case round =>
      obtain ⟨j, hj, rfl, rfl⟩ := hrel
      obtain ⟨b1, b2⟩ := dblK_bd N (by omega) (by omega) j (by omega)
      by_cases hlt : j < k
      · have hi : (j : Int) < (k : Int) := by omega
        go_wp2
        go_round
        case rel => exact ⟨j + 1, by omega, by go_num, rfl⟩
        case measure => simp [intOf]; omega
      · obtain rfl : j = k := by omega
        go_wp2
        go_ret
        exact ⟨rfl, bstep ((Below.refl _ _).alloc (Nat.le_refl _) _) hb1⟩
set_option maxHeartbeats 2000000 in
theorem probe_spec (a b c d k : Int) (w : World) :
    Calls Try.prog 18 #[.agg #[.int .i64 a, .int .i64 b, .int .i64 c, .int .i64 d], .int .i64 k] w fun e w' => e = .returned (.int .i64 (probeF a b c d k)) ∧ Below w.heap.size w w' := by
  cases hv : rttOk a b c d
  · have E : probeF a b c d k = 0 := by simp [probeF, hv]
    rw [E]; exact probe_spec_no a b c d k w hv
  · by_cases hk : 0 ≤ k ∧ k ≤ 6
    · obtain ⟨K, rfl⟩ := Int.eq_ofNat_of_zero_le hk.1
      by_cases ha : a = 0
      · subst ha
        obtain ⟨rfl, rfl, rfl⟩ := rttOk_a hv rfl
        have E : probeF 0 0 0 0 K = dblK 100 K := by simp [probeF, hv, inB_t hk, probeN]
        rw [E]; exact probe_spec_zero K w (by omega)
      · have E : probeF a b c d K = dblK (c / 8 + if d < 1 then 1 else d) K := by simp [probeF, hv, inB_t hk, probeN, ha]
        rw [E]; exact probe_spec_yes a b c d K w hv (by omega) ha
    · have E : probeF a b c d k = 0 := by simp [probeF, inB_f hk]
      rw [E]; exact probe_spec_out a b c d k w hv (inB_f hk)

end Go.Proofs.Ytjgmindnjceofaa
