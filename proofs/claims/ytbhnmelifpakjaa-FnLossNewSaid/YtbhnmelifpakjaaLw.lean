/- The validity of a loss detection: the program. -/
import Derived.Test.YtbhnmelifpakjaaLv
namespace Go.Proofs.Ytbhnmelifpakjaa
open Go.RowKit
set_option linter.unusedVariables false

set_option maxHeartbeats 2000000 in
theorem lvalid_impl (nx lg : Int) (a : Option Addr) (n cap : Nat) (l : List (Int × Int × Int)) (w : World) (hl : l.length = n) (S : Sl 3 w w.heap.size a n (pkG l)) :
    Calls Try.prog 14 #[.agg #[.int .i64 nx, .slice a n cap, .int .i64 lg]] w fun e w' => e = .returned (.bool (lossOk nx lg l)) ∧ Below w.heap.size w w' := by
  cases b1 : inB nx 0 1000
  · have E : lossOk nx lg l = false := by unfold lossOk; rw [b1]; rfl
    rw [E]
    clear S
    go_enter Try.func14, Try.ntmps14
    go_wp2_with (go_at_call 25; refine (within_c _ _ _ _).mono ?_; rintro e w' ⟨rfl, rfl⟩)
    go_ret
    exact ⟨rfl, bpush (Below.refl _ _) _⟩
  obtain ⟨h1, h2⟩ : 0 ≤ nx ∧ nx ≤ 1000 := by simpa [inB] using b1
  cases b2 : inB lg (-1) (nx - 1)
  · have E : lossOk nx lg l = false := by unfold lossOk; rw [b2]; simp
    rw [E]
    clear S
    go_enter Try.func14, Try.ntmps14
    go_wp2_with (go_at_call 25; refine (within_c _ _ _ _).mono ?_; rintro e w' ⟨rfl, rfl⟩)
    go_ret
    exact ⟨rfl, bpush (Below.refl _ _) _⟩
  by_cases hn : 12 < n
  · have E : lossOk nx lg l = false := by
      unfold lossOk
      rw [show decide (l.length ≤ 12) = false from decide_eq_false (by omega)]
      simp
    rw [E]
    clear S
    have hi : (12 : Int) < (n : Int) := by omega
    go_enter Try.func14, Try.ntmps14
    go_wp2_with (go_at_call 25; refine (within_c _ _ _ _).mono ?_; rintro e w' ⟨rfl, rfl⟩)
    go_ret
    exact ⟨rfl, bpush (Below.refl _ _) _⟩
  have hi : ¬ (12 : Int) < (n : Int) := by omega
  have HS := Lib.hid S; clear S
  go_enter Try.func14, Try.ntmps14
  go_wp2_with (go_at_call 25; refine (within_c _ _ _ _).mono ?_; rintro e w' ⟨rfl, rfl⟩)
  have hb0 := bpush (Below.refl w.heap.size w) (Obj.cells #[.int .i64 nx, .slice a n cap, .int .i64 lg] 31)
  have B0 := Blk.new w #[.int .i64 nx, .slice a n cap, .int .i64 lg] 31
  go_loopw [27] (fun i wr => ∃ k : Nat, k ≤ n ∧ i = .int .i64 k ∧ (∀ j, j < k → flOk (nx - 1) lg l j = true) ∧ Below w.heap.size w wr ∧ Blk wr w.heap.size #[.int .i64 nx, .slice a n cap, .int .i64 lg] 31) (fun i _ => n - (intOf i).toNat)
  case atStart => exact ⟨0, by omega, rfl, fun j hj => by omega, hb0, B0⟩
  case round =>
    obtain ⟨k, hk, rfl, hall, hbk, Bk⟩ := hrel
    clear hb0 B0
    by_cases hlt : k < n
    · have hki : (k : Int) < (n : Int) := by omega
      obtain ⟨b, off, rfl, hB, hc⟩ := (HS.out.below hbk).at hlt
      have x0 := hc k hlt 0 (by omega)
      have x1 := hc k hlt 1 (by omega)
      have x2 := hc k hlt 2 (by omega)
      simp only [pkG, Nat.add_zero] at x0 x1 x2
      have c0 := Bk.cell 0 rfl
      have c1 := Bk.cell 1 rfl
      have c2 := Bk.cell 2 rfl
      have q := Bk.lt
      have q' : b < wr.heap.size := by omega
      have hcn := pk_cases (nx - 1) lg (l.getD k (0, 0, 0))
      have F : flOk (nx - 1) lg l k = (pkOk (nx - 1) lg (l.getD k (0, 0, 0)) && (decide (k = 0) || pkLe (l.getD (k - 1) (0, 0, 0)) (l.getD k (0, 0, 0)))) := rfl
      have hb1 := bpush hbk (Obj.cells #[.int .i64 (l.getD k (0, 0, 0)).1, .int .i64 (l.getD k (0, 0, 0)).2.1, .int .i64 (l.getD k (0, 0, 0)).2.2] 51)
      have N := fun h => lossOk_no (nx := nx) (lg := lg) (l := l) (i := k) (by omega) h
      rcases hcn with ⟨p1, P⟩ | ⟨p1, p2, P⟩ | ⟨p1, p2, p3, P⟩ | ⟨p1, p2, p3, p4, P⟩ | ⟨p1, p2, p3, p4, P⟩
      case inr.inr.inr.inr =>
        rw [P] at F
        rcases Nat.eq_zero_or_pos k with hz | hpos
        · have hz1 : decide ((0 : Int) < (k : Int)) = false := decide_eq_false (by omega)
          have hz2 : decide (0 < k) = false := decide_eq_false (by omega)
          have F' : flOk (nx - 1) lg l k = true := by rw [F, decide_eq_true hz]; rfl
          clear N F hc hz
          generalize l.getD k (0, 0, 0) = p at *
          go_wp2_with (go_at_call 25; refine (within_c _ _ _ _).mono ?_; rintro e w' ⟨rfl, rfl⟩)
          go_quiet (fail)
          go_wp2
          go_roundw
          case rel => exact ⟨k + 1, by omega, by go_num, all_step hall F', bdrewN hb1 _, (Bk.alloc _).drewN _⟩
          case measure => simp [intOf]; omega
        · obtain ⟨j, rfl⟩ : ∃ j, k = j + 1 := ⟨k - 1, by omega⟩
          have y0 := hc j (by omega) 0 (by omega)
          have y1 := hc j (by omega) 1 (by omega)
          simp only [pkG, Nat.add_zero] at y0 y1
          rw [show j + 1 - 1 = j by omega] at F
          have hL := le_cases (l.getD j (0, 0, 0)) (l.getD (j + 1) (0, 0, 0))
          clear hc
          generalize l.getD (j + 1) (0, 0, 0) = p at *
          generalize l.getD j (0, 0, 0) = p' at *
          go_wp2_with (go_at_call 25; refine (within_c _ _ _ _).mono ?_; rintro e w' ⟨rfl, rfl⟩)
          have g1 : decide ((0 : Int) < (j : Int) + 1) = true := decide_eq_true (by omega)
          have g2 : IntKind.i64.wrap ((j : Int) + 1 - 1) = j := by rw [IntWalk.i64_in _ (by omega)]; omega
          have g3 : IntKind.i64.wrap (j : Int) = j := IntWalk.i64_in _ (by omega)
          have g4 : (j : Int) < (n : Int) := by omega
          rcases hL with ⟨q1, Q⟩ | ⟨q1, q2, Q⟩ | ⟨q1, q2, Q⟩
          case inr.inr =>
            have F' : flOk (nx - 1) lg l (j + 1) = true := by rw [F, Q]; simp
            clear N F P Q
            go_quiet (fail)
            go_wp2
            go_roundw
            case rel => exact ⟨j + 1 + 1, by omega, by go_num, all_step hall F', bdrewN hb1 _, (Bk.alloc _).drewN _⟩
            case measure => simp [intOf]; omega
          · rw [Q] at F
            have G := Lib.hid (N (F.trans (by simp)))
            clear N F P Q hall
            go_quiet (fail)
            go_wp2
            go_ret
            rw [G.out]
            exact ⟨rfl, bdrewN hb1 _⟩
          · rw [Q] at F
            have G := Lib.hid (N (F.trans (by simp)))
            clear N F P Q hall
            go_quiet (fail)
            go_wp2
            go_ret
            rw [G.out]
            exact ⟨rfl, bdrewN hb1 _⟩
      all_goals
        rw [P] at F
        have G := Lib.hid (N F)
        clear N F P hc hall
        generalize l.getD k (0, 0, 0) = p at *
        go_wp2_with (go_at_call 25; refine (within_c _ _ _ _).mono ?_; rintro e w' ⟨rfl, rfl⟩)
        go_ret
        rw [G.out]
        exact ⟨rfl, hb1⟩
    · obtain rfl : k = n := by omega
      have E : lossOk nx lg l = true := lossOk_mk b1 b2 (by omega) (by rw [hl]; exact hall)
      go_wp2_with fail
      go_ret
      rw [E]
      exact ⟨rfl, hbk⟩
end Go.Proofs.Ytbhnmelifpakjaa
