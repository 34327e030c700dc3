/- Contracts of tickets and their homes. -/
import Derived.Test.YtjlaikmilcgmhaaA0
import Derived.Test.YtjlaikmilcgmhaaRd
namespace Go.Proofs.Ytjlaikmilcgmhaa
open Go.RowKit
set_option linter.unusedVariables false

/-- A ticket is in range; its home. -/
def tkOk (i s : Int) : Bool := inB i 0 99 && inB s 0 999
def homeF (n i s : Int) : Int := if inB n 1 4 = true ∧ tkOk i s = true then i % n else -1
set_option maxHeartbeats 600000 in
theorem tkOk_t {i s : Int} (h : tkOk i s = true) : (0 ≤ i ∧ i ≤ 99) ∧ (0 ≤ s ∧ s ≤ 999) := by simp [tkOk, inB] at h; exact h
set_option maxHeartbeats 600000 in
theorem tkOk_mk {i s : Int} (h : (0 ≤ i ∧ i ≤ 99) ∧ (0 ≤ s ∧ s ≤ 999)) : tkOk i s = true := by simp [tkOk, inB, h]

set_option maxHeartbeats 600000 in
theorem isT_impl (i s : Int) (w : World) :
    Calls Try.prog 42 #[.agg #[.int .i64 i, .int .i64 s]] w fun e w' => e = .returned (.bool (tkOk i s)) ∧ Below w.heap.size w w' := by
  unfold tkOk
  cases b1 : inB i 0 99 <;> cases b2 : inB s 0 999
  all_goals
    go_enter Try.func42, Try.ntmps42
    go_wp2_with (go_at_call 35; refine (within_c _ _ _ _).mono ?_; rintro e w' ⟨rfl, rfl⟩)
    go_ret
    exact ⟨rfl, (Below.refl _ _).alloc (Nat.le_refl _) _⟩
set_option maxHeartbeats 600000 in
theorem isT_spec (i s : Int) (w : World) :
    Calls Try.prog 30 #[.agg #[.int .i64 i, .int .i64 s]] w fun e w' => e = .returned (.bool (tkOk i s)) ∧ Below w.heap.size w w' := by
  unfold tkOk
  cases b1 : inB i 0 99 <;> cases b2 : inB s 0 999
  all_goals
    go_enter Try.func30, Try.ntmps30
    go_wp2_with (go_at_call 31; refine (l6In_c _ _ _ _).mono ?_; rintro e w' ⟨rfl, rfl⟩)
    go_ret
    exact ⟨rfl, (Below.refl _ _).alloc (Nat.le_refl _) _⟩
set_option maxHeartbeats 600000 in
theorem home_impl (n i s : Int) (w : World) :
    Calls Try.prog 34 #[.int .i64 n, .agg #[.int .i64 i, .int .i64 s]] w fun e w' => e = .returned (.int .i64 (homeF n i s)) ∧ Below w.heap.size w w' := by
  by_cases h1 : 1 ≤ n ∧ n ≤ 4
  · have b1 := inB_t h1
    obtain ⟨h11, h12⟩ := h1
    cases b2 : tkOk i s
    · have E := Lib.hid (show homeF n i s = -1 by simp [homeF, b2])
      rw [E.out]
      go_enter Try.func34, Try.ntmps34
      go_wp2_with (first | (go_at_call 35; refine (within_c _ _ _ _).mono ?_; rintro e w' ⟨rfl, rfl⟩))
      refine (isT_impl _ _ _).mono ?_
      rintro e w1 ⟨rfl, hb1⟩
      have B1 := (Blk.new w #[.int .i64 i, .int .i64 s] 30).below hb1
      have c0 := B1.cell 0 rfl
      have c1 := B1.cell 1 rfl
      clear B1
      go_wp2
      go_ret
      exact ⟨rfl, bstep (bpush (Below.refl w.heap.size w) _) hb1⟩
    · obtain ⟨⟨h3, h4⟩, _⟩ := tkOk_t b2
      have E := Lib.hid (show homeF n i s = i % n by simp [homeF, b1, b2])
      rw [E.out]
      go_enter Try.func34, Try.ntmps34
      go_wp2_with (first | (go_at_call 35; refine (within_c _ _ _ _).mono ?_; rintro e w' ⟨rfl, rfl⟩))
      refine (isT_impl _ _ _).mono ?_
      rintro e w1 ⟨rfl, hb1⟩
      have B1 := (Blk.new w #[.int .i64 i, .int .i64 s] 30).below hb1
      have c0 := B1.cell 0 rfl
      have c1 := B1.cell 1 rfl
      clear B1
      go_wp2
      go_ret
      exact ⟨rfl, bstep (bpush (Below.refl w.heap.size w) _) hb1⟩
  · have b1 := inB_f h1
    have E := Lib.hid (show homeF n i s = -1 by simp [homeF, b1])
    rw [E.out]
    clear h1
    go_enter Try.func34, Try.ntmps34
    go_wp2_with (go_at_call 35; refine (within_c _ _ _ _).mono ?_; rintro e w' ⟨rfl, rfl⟩)
    go_ret
    exact ⟨rfl, (Below.refl _ _).alloc (Nat.le_refl _) _⟩
set_option maxHeartbeats 600000 in
theorem home_spec (n i s : Int) (w : World) :
    Calls Try.prog 32 #[.int .i64 n, .agg #[.int .i64 i, .int .i64 s]] w fun e w' => e = .returned (.int .i64 (homeF n i s)) ∧ Below w.heap.size w w' := by
  by_cases h1 : 1 ≤ n ∧ n ≤ 4
  · have b1 := inB_t h1
    obtain ⟨h11, h12⟩ := h1
    cases b2 : tkOk i s
    · have E := Lib.hid (show homeF n i s = -1 by simp [homeF, b2])
      rw [E.out]
      go_enter Try.func32, Try.ntmps32
      go_wp2_with (first | (go_at_call 31; refine (l6In_c _ _ _ _).mono ?_; rintro e w' ⟨rfl, rfl⟩))
      refine (isT_spec _ _ _).mono ?_
      rintro e w1 ⟨rfl, hb1⟩
      have B1 := (Blk.new w #[.int .i64 i, .int .i64 s] 30).below hb1
      have c0 := B1.cell 0 rfl
      have c1 := B1.cell 1 rfl
      clear B1
      go_wp2
      go_ret
      exact ⟨rfl, bstep (bpush (Below.refl w.heap.size w) _) hb1⟩
    · obtain ⟨⟨h3, h4⟩, _⟩ := tkOk_t b2
      have E := Lib.hid (show homeF n i s = i % n by simp [homeF, b1, b2])
      rw [E.out]
      go_enter Try.func32, Try.ntmps32
      go_wp2_with (first | (go_at_call 31; refine (l6In_c _ _ _ _).mono ?_; rintro e w' ⟨rfl, rfl⟩))
      refine (isT_spec _ _ _).mono ?_
      rintro e w1 ⟨rfl, hb1⟩
      have B1 := (Blk.new w #[.int .i64 i, .int .i64 s] 30).below hb1
      have c0 := B1.cell 0 rfl
      have c1 := B1.cell 1 rfl
      clear B1
      go_wp2
      go_ret
      exact ⟨rfl, bstep (bpush (Below.refl w.heap.size w) _) hb1⟩
  · have b1 := inB_f h1
    have E := Lib.hid (show homeF n i s = -1 by simp [homeF, b1])
    rw [E.out]
    clear h1
    go_enter Try.func32, Try.ntmps32
    go_wp2_with (go_at_call 31; refine (l6In_c _ _ _ _).mono ?_; rintro e w' ⟨rfl, rfl⟩)
    go_ret
    exact ⟨rfl, (Below.refl _ _).alloc (Nat.le_refl _) _⟩
end Go.Proofs.Ytjlaikmilcgmhaa
