/- Packets compared; a loss detection laid anew and compared. -/
import Derived.Test.YtbhnmelifpakjaaLy
import Derived.Deep.RegionLaw
namespace Go.Proofs.Ytbhnmelifpakjaa
open Go.RowKit
set_option linter.unusedVariables false

theorem eqPk_c (x y z : Int) (w : World) :
    Calls Try.prog 35 #[.agg #[.int .i64 x, .int .i64 y, .int .i64 z], .agg #[.int .i64 x, .int .i64 y, .int .i64 z]] w fun e w' => e = .returned (.bool true) ∧ Below w.heap.size w w' := by
  go_enter Try.func35, Try.ntmps35
  go_wp2
  go_ret
  refine ⟨rfl, ?_⟩
  repeat (first | with_reducible exact Below.refl _ _ | with_reducible refine Below.drew ?_ | with_reducible refine Below.setCell ?_ (by simp <;> omega) _ | with_reducible refine Below.alloc ?_ (by simp <;> omega) _)

set_option maxHeartbeats 1000000 in
theorem eqPkS_c (a a' : Option Addr) (n cap cap' : Nat) (l : List (Int × Int × Int)) (w : World) (S : Sl 3 w w.heap.size a n (pkG l)) (S' : Sl 3 w w.heap.size a' n (pkG l)) :
    Calls Try.prog 30 #[.slice a n cap, .slice a' n cap'] w fun e w' => e = .returned (.bool true) ∧ Below w.heap.size w w' := by
  have hn := S.len
  have HS := Lib.hid S; clear S
  have HS' := Lib.hid S'; clear S'
  have hb0 := Below.refl w.heap.size w
  go_enter Try.func30, Try.ntmps30
  go_wp2_with fail
  go_loopw [5] (fun i wr => ∃ k : Nat, k ≤ n ∧ i = .int .i64 k ∧ Below w.heap.size w wr) (fun i _ => n - (intOf i).toNat)
  case atStart => exact ⟨0, by omega, rfl, hb0⟩
  case round =>
    obtain ⟨k, hk, rfl, hbk⟩ := hrel
    clear hb0
    by_cases hlt : k < n
    · have hki : (k : Int) < (n : Int) := by omega
      obtain ⟨b, off, rfl, hB, hc⟩ := (HS.out.below hbk).at hlt
      obtain ⟨b', off', rfl, hB', hc'⟩ := (HS'.out.below hbk).at hlt
      obtain ⟨p, hp⟩ : ∃ p, l.getD k (0, 0, 0) = p := ⟨_, rfl⟩
      have x0 := hc k hlt 0 (by omega)
      have x1 := hc k hlt 1 (by omega)
      have x2 := hc k hlt 2 (by omega)
      have y0 := hc' k hlt 0 (by omega)
      have y1 := hc' k hlt 1 (by omega)
      have y2 := hc' k hlt 2 (by omega)
      simp only [pkG, Nat.add_zero, hp] at x0 x1 x2 y0 y1 y2
      clear hc hc' hp HS HS'
      go_wp2_with fail
      go_region_law (first | (go_simp; go_at_call 35; with_reducible refine (eqPk_c _ _ _ _).mono ?_; rintro e1 w2 ⟨rfl, hb2⟩))
      all_goals
        go_wp2_with fail
        go_roundw
        case rel => exact ⟨k + 1, by omega, by go_num, bstep (bdrew hbk) hb2⟩
        case measure => simp [intOf]; omega
    · obtain rfl : k = n := by omega
      go_wp2_with fail
      go_ret
      exact ⟨rfl, hbk⟩
end Go.Proofs.Ytbhnmelifpakjaa
