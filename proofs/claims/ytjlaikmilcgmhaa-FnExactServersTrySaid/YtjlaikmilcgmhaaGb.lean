/- The order of tickets: both programs. -/
import Derived.Test.YtjlaikmilcgmhaaGa
import Derived.Test.YtjlaikmilcgmhaaGq
import Derived.Deep.RegionLaw
namespace Go.Proofs.Ytjlaikmilcgmhaa
open Go.RowKit
set_option linter.unusedVariables false

/-- What a comparison says. -/
def cmpI (x y : Int) : Int := if x < y then -1 else if y < x then 1 else 0
def orF (x y : Int) : Int := if x = 0 then y else x
def cmpT (a b : Int × Int) : Int := orF (cmpI a.2 b.2) (cmpI a.1 b.1)
theorem cmpT_neg {a b : Int × Int} : cmpT a b < 0 ↔ tkLt a b = true := by
  rw [tkLt_iff]; unfold cmpT orF cmpI; repeat' split <;> omega
theorem cmpT_zero {a b : Int × Int} : cmpT a b = 0 ↔ a = b := by
  constructor
  · intro h
    refine Prod.ext ?_ ?_ <;> (unfold cmpT orF cmpI at h; repeat' split at h <;> omega)
  · rintro rfl; unfold cmpT orF cmpI; simp
theorem cmpI_lt {x y : Int} (h : x < y) : cmpI x y = -1 := by unfold cmpI; rw [if_pos h]
theorem cmpI_gt {x y : Int} (h : y < x) : cmpI x y = 1 := by unfold cmpI; rw [if_neg (by omega), if_pos h]
theorem cmpI_eq (x : Int) : cmpI x x = 0 := by unfold cmpI; rw [if_neg (by omega), if_neg (by omega)]

theorem compare_c (x y : Int) (w : World) :
    Calls Try.prog 52 #[.int .i64 x, .int .i64 y] w fun e w' => e = .returned (.int .i64 (cmpI x y)) ∧ w = w' := by
  have h1 : (x == x) = true := by simp
  have h2 : (y == y) = true := by simp
  rcases Int.lt_trichotomy x y with h | h | h
  · rw [cmpI_lt h]
    go_enter Try.func52, Try.ntmps52
    go_wp2
    go_ret
    exact ⟨rfl, rfl⟩
  · subst h
    rw [cmpI_eq]
    go_enter Try.func52, Try.ntmps52
    go_wp2
    go_ret
    exact ⟨rfl, rfl⟩
  · rw [cmpI_gt h]
    have h' : ¬ x < y := by omega
    go_enter Try.func52, Try.ntmps52
    go_wp2
    go_ret
    exact ⟨rfl, rfl⟩

theorem or_c (x y : Int) (b : Nat) (w : World) (h0 : w.cell? ⟨b, 0, none⟩ = some (.int .i64 x)) (h1 : w.cell? ⟨b, 1, none⟩ = some (.int .i64 y)) :
    Calls Try.prog 51 #[.slice (some ⟨b, 0, none⟩) 2 2] w fun e w' => e = .returned (.int .i64 (orF x y)) ∧ w = w' := by
  by_cases hx : x = 0
  · have z : (x == 0) = true := by simpa using hx
    have z' : ¬ x ≠ 0 := by omega
    rw [show orF x y = y from if_pos hx]
    go_enter Try.func51, Try.ntmps51
    go_wp2
    go_loop [8] (fun i => ∃ k : Nat, k ≤ 2 ∧ i = .int .i64 k ∧ (2 ≤ k → y = 0)) (fun i => 2 - (intOf i).toNat)
    case atStart => exact ⟨0, by omega, rfl, fun h => by omega⟩
    case round =>
      obtain ⟨k, hk, rfl, hy⟩ := hrel
      match k, hk with
      | 0, _ =>
        clear hy
        go_wp2
        go_round
        case rel => exact ⟨1, by omega, by go_num, fun h => by omega⟩
        case measure => simp [intOf]
      | 1, _ =>
        clear hy
        by_cases y0 : y = 0
        · have y1 : (y == 0) = true := by simpa using y0
          go_wp2
          go_round
          case rel => exact ⟨2, by omega, by go_num, fun h => y0⟩
          case measure => simp [intOf]
        · have y1 : (y == 0) = false := by simpa using y0
          go_wp2
          go_ret
          exact ⟨rfl, rfl⟩
      | 2, _ =>
        have y0 := hy (by omega)
        subst y0
        clear hy
        go_wp2
        go_ret
        exact ⟨rfl, rfl⟩
  · have z : (x == 0) = false := by simpa using hx
    rw [show orF x y = x from if_neg hx]
    go_enter Try.func51, Try.ntmps51
    go_wp2
    go_loop [8] (fun i => i = .int .i64 0) (fun _ => 0)
    case atStart => rfl
    case round =>
      subst hrel
      go_wp2
      go_ret
      exact ⟨rfl, rfl⟩

set_option maxHeartbeats 1000000 in
theorem cmpT_c (a b : Int × Int) (w : World) :
    Calls Try.prog 43 #[.agg #[.int .i64 a.1, .int .i64 a.2], .agg #[.int .i64 b.1, .int .i64 b.2]] w fun e w' => e = .returned (.int .i64 (cmpT a b)) ∧ Below w.heap.size w w' := by
  have E : orF (cmpI a.2 b.2) (cmpI a.1 b.1) = cmpT a b := rfl
  obtain ⟨a0, a1⟩ := a
  obtain ⟨b0, b1⟩ := b
  simp only at E ⊢
  have H := Lib.hid E
  clear E
  go_enter Try.func43, Try.ntmps43
  go_wp2_with fail
  have N := Blk.new ((w.alloc (Obj.cells #[.int .i64 a0, .int .i64 a1] 30)).alloc (Obj.cells #[.int .i64 b0, .int .i64 b1] 30)) #[.int .i64 (cmpI a1 b1), .int .i64 (cmpI a0 b0)] 3
  have n0 := N.drew.cell 0 rfl
  have n1 := N.drew.cell 1 rfl
  simp only [World.size_alloc] at n0 n1
  clear N
  go_region_law (first | (go_simp; go_at_call 52; with_reducible refine (compare_c _ _ _).mono ?_; rintro e w1 ⟨rfl, rfl⟩) | (go_simp; go_at_call 51; with_reducible refine (or_c _ _ _ _ n0 n1).mono ?_; rintro e w1 ⟨rfl, rfl⟩))
  all_goals
    go_wp2_with fail
    go_ret
    rw [H.out]
    exact ⟨rfl, bdrew (bpush (bpush (bpush (Below.refl w.heap.size w) _) _) _)⟩

theorem less_c (a b : Int × Int) (w : World) :
    Calls Try.prog 40 #[.agg #[.int .i64 a.1, .int .i64 a.2], .agg #[.int .i64 b.1, .int .i64 b.2]] w fun e w' => e = .returned (.bool (tkLt a b)) ∧ Below w.heap.size w w' := by
  have E : tkLt a b = (decide (a.2 < b.2) || (decide (a.2 = b.2) && decide (a.1 < b.1))) := rfl
  obtain ⟨a0, a1⟩ := a
  obtain ⟨b0, b1⟩ := b
  simp only at E ⊢
  rcases Int.lt_trichotomy a1 b1 with h | h | h
  · have E' := Lib.hid (show tkLt (a0, a1) (b0, b1) = true by rw [E, decide_eq_true h]; rfl)
    rw [E'.out]
    clear E
    go_enter Try.func40, Try.ntmps40
    go_wp2
    go_ret
    exact ⟨rfl, bpush (bpush (Below.refl w.heap.size w) _) _⟩
  · subst h
    have h1 : ¬ a1 < a1 := by omega
    have h2 : (a1 == a1) = true := by simp
    by_cases g : a0 < b0
    · have E' := Lib.hid (show tkLt (a0, a1) (b0, a1) = true by rw [E, decide_eq_true g]; simp)
      rw [E'.out]
      clear E
      go_enter Try.func40, Try.ntmps40
      go_wp2
      go_ret
      exact ⟨rfl, bpush (bpush (Below.refl w.heap.size w) _) _⟩
    · have E' := Lib.hid (show tkLt (a0, a1) (b0, a1) = false by rw [E, decide_eq_false g]; simp)
      rw [E'.out]
      clear E
      go_enter Try.func40, Try.ntmps40
      go_wp2
      go_ret
      exact ⟨rfl, bpush (bpush (Below.refl w.heap.size w) _) _⟩
  · have h1 : ¬ a1 < b1 := by omega
    have h2 : (a1 == b1) = false := by simp; omega
    have E' := Lib.hid (show tkLt (a0, a1) (b0, b1) = false by rw [E, decide_eq_false h1, decide_eq_false (show ¬ a1 = b1 by omega)]; rfl)
    rw [E'.out]
    clear E
    go_enter Try.func40, Try.ntmps40
    go_wp2
    go_ret
    exact ⟨rfl, bpush (bpush (Below.refl w.heap.size w) _) _⟩
end Go.Proofs.Ytjlaikmilcgmhaa
