/- Contracts of the tokens. -/
import Derived.Test.YtompmehlbbddhaaA0
import Derived.LoopTactic
import Derived.Deep.QuietTactic
import Derived.BigQuiet
namespace Go.Proofs.Ytompmehlbbddhaa
open Go.RowKit
set_option linter.unusedVariables false

/-- One round of the tag. -/
def tagStep (n s a t i : Int) : Int := (n * n + s * a + 7 * t + 11 * a + i) % 997
def tagK (s a t : Int) : Nat → Int
  | 0 => s + 1
  | k + 1 => tagStep (tagK s a t k) s a t k
def tagF (s a t : Int) : Int := tagK s a t 3

def tokOk (s a t : Int) : Bool := inB s 0 96 && inB a 1 99 && inB t 0 999
theorem tokOk_t {s a t : Int} (h : tokOk s a t = true) : (0 ≤ s ∧ s ≤ 96) ∧ (1 ≤ a ∧ a ≤ 99) ∧ (0 ≤ t ∧ t ≤ 999) := by
  simp [tokOk, inB] at h; omega
theorem tokOk_mk {s a t : Int} (h : (0 ≤ s ∧ s ≤ 96) ∧ (1 ≤ a ∧ a ≤ 99) ∧ (0 ≤ t ∧ t ≤ 999)) : tokOk s a t = true := by
  simp [tokOk, inB]; omega
theorem tokOk_no {s a t : Int} (h : ¬ ((0 ≤ s ∧ s ≤ 96) ∧ (1 ≤ a ∧ a ≤ 99) ∧ (0 ≤ t ∧ t ≤ 999))) : tokOk s a t = false := by
  cases e : tokOk s a t
  · rfl
  · exact (h (tokOk_t e)).elim

theorem tagStep_bd (n s a t i : Int) : 0 ≤ tagStep n s a t i ∧ tagStep n s a t i ≤ 996 := by unfold tagStep; omega
theorem tagK_bd (s a t : Int) (h0 : 0 ≤ s) (h1 : s ≤ 96) (k : Nat) : 0 ≤ tagK s a t k ∧ tagK s a t k ≤ 996 := by
  cases k with
  | zero => simp only [tagK]; omega
  | succ k => exact tagStep_bd _ _ _ _ _
theorem tagF_bd (s a t : Int) : 0 ≤ tagF s a t ∧ tagF s a t ≤ 996 := tagStep_bd _ _ _ _ _
theorem sq_bd (n : Int) (h : 0 ≤ n ∧ n ≤ 996) : 0 ≤ n * n ∧ n * n ≤ 992016 := by
  refine ⟨Int.mul_nonneg h.1 h.1, ?_⟩
  have := Int.mul_le_mul h.2 h.2 h.1 (by omega)
  omega
theorem sa_bd (s a : Int) (h : 0 ≤ s ∧ s ≤ 96) (k : 1 ≤ a ∧ a ≤ 99) : 0 ≤ s * a ∧ s * a ≤ 9504 := by
  refine ⟨Int.mul_nonneg h.1 (by omega), ?_⟩
  have := Int.mul_le_mul h.2 k.2 (by omega) (by omega)
  omega

theorem tag_impl (s a t : Int) (w : World) (h1 : 0 ≤ s ∧ s ≤ 96) (h2 : 1 ≤ a ∧ a ≤ 99) (h3 : 0 ≤ t ∧ t ≤ 999) :
    Calls Try.prog 23 #[.int .i64 s, .int .i64 a, .int .i64 t] w fun e w' => e = .returned (.int .i64 (tagF s a t)) ∧ w = w' := by
  obtain ⟨s1, s2⟩ := sa_bd s a h1 h2
  obtain ⟨h11, h12⟩ := h1
  obtain ⟨h21, h22⟩ := h2
  obtain ⟨h31, h32⟩ := h3
  go_enter Try.func23, Try.ntmps23
  go_wp2
  go_loop [7, 11] (fun n i => ∃ k : Nat, k ≤ 3 ∧ i = .int .i64 k ∧ n = .int .i64 (tagK s a t k)) (fun _ i => 3 - (intOf i).toNat)
  case atStart => exact ⟨0, by omega, rfl, rfl⟩
  case round =>
    obtain ⟨k, hk, rfl, rfl⟩ := hrel
    obtain ⟨b1, b2⟩ := tagK_bd s a t h11 h12 k
    obtain ⟨b3, b4⟩ := sq_bd _ ⟨b1, b2⟩
    by_cases hlt : k < 3
    · have hi : (k : Int) < 3 := by omega
      go_wp2
      go_round
      case rel => exact ⟨k + 1, by omega, by go_num, rfl⟩
      case measure => simp [intOf]; omega
    · obtain rfl : k = 3 := by omega
      go_wp2
      go_ret
      exact ⟨rfl, rfl⟩

theorem tag_spec (s a t : Int) (w : World) (h1 : 0 ≤ s ∧ s ≤ 96) (h2 : 1 ≤ a ∧ a ≤ 99) (h3 : 0 ≤ t ∧ t ≤ 999) :
    Calls Try.prog 20 #[.int .i64 s, .int .i64 a, .int .i64 t] w fun e w' => e = .returned (.int .i64 (tagF s a t)) ∧ w = w' := by
  obtain ⟨s1, s2⟩ := sa_bd s a h1 h2
  obtain ⟨h11, h12⟩ := h1
  obtain ⟨h21, h22⟩ := h2
  obtain ⟨h31, h32⟩ := h3
  go_enter Try.func20, Try.ntmps20
  go_wp2
  go_loop [7, 8] (fun n i => ∃ k : Nat, k ≤ 3 ∧ i = .int .i64 k ∧ n = .int .i64 (tagK s a t k)) (fun _ i => 3 - (intOf i).toNat)
  case atStart => exact ⟨0, by omega, rfl, rfl⟩
  case round =>
    obtain ⟨k, hk, rfl, rfl⟩ := hrel
    obtain ⟨b1, b2⟩ := tagK_bd s a t h11 h12 k
    obtain ⟨b3, b4⟩ := sq_bd _ ⟨b1, b2⟩
    by_cases hlt : k < 3
    · have hi : (k : Int) < 3 := by omega
      go_wp2
      go_round
      case rel => exact ⟨k + 1, by omega, by go_num, rfl⟩
      case measure => simp [intOf]; omega
    · obtain rfl : k = 3 := by omega
      go_wp2
      go_ret
      exact ⟨rfl, rfl⟩

theorem range_impl (s a t : Int) (w : World) :
    Calls Try.prog 21 #[.int .i64 s, .int .i64 a, .int .i64 t] w fun e w' => e = .returned (.bool (tokOk s a t)) ∧ w = w' := by
  unfold tokOk
  cases b1 : inB s 0 96 <;> cases b2 : inB a 1 99 <;> cases b3 : inB t 0 999
  all_goals
    go_enter Try.func21, Try.ntmps21
    go_wp2_with (go_at_call 22; refine (within_c _ _ _ _).mono ?_; rintro e w' ⟨rfl, rfl⟩)
    go_ret
    exact ⟨rfl, rfl⟩

theorem args_spec (s a t : Int) (w : World) :
    Calls Try.prog 18 #[.int .i64 s, .int .i64 a, .int .i64 t] w fun e w' => e = .returned (.bool (tokOk s a t)) ∧ w = w' := by
  unfold tokOk
  cases b1 : inB s 0 96 <;> cases b2 : inB a 1 99 <;> cases b3 : inB t 0 999
  all_goals
    go_enter Try.func18, Try.ntmps18
    go_wp2_with (go_at_call 19; refine (l6In_c _ _ _ _).mono ?_; rintro e w' ⟨rfl, rfl⟩)
    go_ret
    exact ⟨rfl, rfl⟩

/-- The token that is made. -/
def mkA (s a t : Int) : Int := if tokOk s a t = true then a else 0
def mkT (s a t : Int) : Int := if tokOk s a t = true then t else 0
def mkG (s a t : Int) : Int := if tokOk s a t = true then tagF s a t else 0


/-- Is a token accepted? -/
def accF (s ta tt tg a now : Int) : Bool := tokOk s a now && decide (ta = a) && inB tt 0 now && decide (now ≤ tt + 20) && decide (tg = tagF s a tt)

theorem quiet_left {P : Program} {f : FuncId} {args : Array Value} {w : World} {n : Nat} {v : Value}
    (h : Calls P f args (w.drewN n) fun e w' => e = .returned v ∧ w.drewN n = w') : Calls P f args (w.drewN n) fun e w'' => e = .returned v ∧ ∃ m, w'' = w.drewN m :=
  h.mono fun _ _ ⟨he, hm⟩ => ⟨he, n, hm.symm⟩

theorem make_impl (s a t : Int) (w : World) :
    Calls Try.prog 14 #[.int .i64 s, .int .i64 a, .int .i64 t] w fun e w' =>
      e = .returned (.tuple #[.agg #[.int .i64 (mkA s a t), .int .i64 (mkT s a t), .int .i64 (mkG s a t)], .bool (tokOk s a t)]) ∧ Below w.heap.size w w' := by
  cases b : tokOk s a t
  · have e1 : mkA s a t = 0 := by simp [mkA, b]
    have e2 : mkT s a t = 0 := by simp [mkT, b]
    have e3 : mkG s a t = 0 := by simp [mkG, b]
    go_enter Try.func14, Try.ntmps14
    go_wp2_with (go_at_call 21; refine (range_impl _ _ _ _).mono ?_; rintro e w' ⟨rfl, rfl⟩)
    refine bodyPost_ret (v := .tuple #[.agg #[.int .i64 0, .int .i64 0, .int .i64 0], .bool false]) (by simp [results, Try.results14, go_sem]) rfl ⟨by simp only [e1, e2, e3], ?_⟩
    repeat (first | exact Below.refl _ _ | refine Below.setCell ?_ (by simp) _ | refine Below.alloc ?_ (by simp) _)
  · have e1 : mkA s a t = a := by simp [mkA, b]
    have e2 : mkT s a t = t := by simp [mkT, b]
    have e3 : mkG s a t = tagF s a t := by simp [mkG, b]
    obtain ⟨h1, h2, h3⟩ := tokOk_t b
    go_enter Try.func14, Try.ntmps14
    go_wp2_with (first | (go_at_call 21; refine (range_impl _ _ _ _).mono ?_; rintro e w' ⟨rfl, rfl⟩) | (go_at_call 23; refine (tag_impl _ _ _ _ h1 h2 h3).mono ?_; rintro e w' ⟨rfl, rfl⟩))
    refine bodyPost_ret (v := .tuple #[.agg #[.int .i64 a, .int .i64 t, .int .i64 (tagF s a t)], .bool true]) (by simp [results, Try.results14, go_sem]) rfl ⟨by simp only [e1, e2, e3], ?_⟩
    repeat (first | exact Below.refl _ _ | refine Below.setCell ?_ (by simp) _ | refine Below.alloc ?_ (by simp) _)

theorem make_spec (s a t : Int) (w : World) :
    Calls Try.prog 13 #[.int .i64 s, .int .i64 a, .int .i64 t] w fun e w' =>
      e = .returned (.tuple #[.agg #[.int .i64 (mkA s a t), .int .i64 (mkT s a t), .int .i64 (mkG s a t)], .bool (tokOk s a t)]) ∧ Below w.heap.size w w' := by
  cases b : tokOk s a t
  · have e1 : mkA s a t = 0 := by simp [mkA, b]
    have e2 : mkT s a t = 0 := by simp [mkT, b]
    have e3 : mkG s a t = 0 := by simp [mkG, b]
    go_enter Try.func13, Try.ntmps13
    go_wp2_with (go_at_call 18; refine (args_spec _ _ _ _).mono ?_; rintro e w' ⟨rfl, rfl⟩)
    refine bodyPost_ret (v := .tuple #[.agg #[.int .i64 0, .int .i64 0, .int .i64 0], .bool false]) (by simp [results, Try.results13, go_sem]) rfl ⟨by simp only [e1, e2, e3], ?_⟩
    repeat (first | exact Below.refl _ _ | refine Below.setCell ?_ (by simp) _ | refine Below.alloc ?_ (by simp) _)
  · have e1 : mkA s a t = a := by simp [mkA, b]
    have e2 : mkT s a t = t := by simp [mkT, b]
    have e3 : mkG s a t = tagF s a t := by simp [mkG, b]
    obtain ⟨h1, h2, h3⟩ := tokOk_t b
    go_enter Try.func13, Try.ntmps13
    go_wp2_with (first | (go_at_call 18; refine (args_spec _ _ _ _).mono ?_; rintro e w' ⟨rfl, rfl⟩) | (go_at_call 20; refine (tag_spec _ _ _ _ h1 h2 h3).mono ?_; rintro e w' ⟨rfl, rfl⟩))
    refine bodyPost_ret (v := .tuple #[.agg #[.int .i64 a, .int .i64 t, .int .i64 (tagF s a t)], .bool true]) (by simp [results, Try.results13, go_sem]) rfl ⟨by simp only [e1, e2, e3], ?_⟩
    repeat (first | exact Below.refl _ _ | refine Below.setCell ?_ (by simp) _ | refine Below.alloc ?_ (by simp) _)

end Go.Proofs.Ytompmehlbbddhaa
