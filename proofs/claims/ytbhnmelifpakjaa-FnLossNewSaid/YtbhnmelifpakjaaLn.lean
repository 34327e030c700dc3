/- The new loss detection: both programs, and the tests on it. -/
import Derived.Test.YtbhnmelifpakjaaLc
import Derived.Test.YtbhnmelifpakjaaLw
import Derived.LoopTactic
import Derived.Deep.RegionHeld3
namespace Go.Proofs.Ytbhnmelifpakjaa
open Go.RowKit
set_option linter.unusedVariables false

/-- A new loss detection. -/
abbrev newL (a : Option Addr) (cap : Nat) : Value := .agg #[.int .i64 0, .slice a (0 : Nat) cap, .int .i64 (-1)]
theorem sl_none (w : World) (B : Nat) (a : Option Addr) (g : Nat → Nat → Value) : Sl 3 w B a 0 g := ⟨by omega, .inl rfl⟩

theorem lnew_impl (w : World) : Calls Try.prog 11 #[] w fun e w' => e = .returned (newL none 0) ∧ Below w.heap.size w w' := by
  go_enter Try.func11, Try.ntmps11
  go_wp2
  refine bodyPost_ret (v := newL none 0) (by simp [results, Try.results11, go_sem]) rfl ⟨rfl, ?_⟩
  repeat (first | with_reducible exact Below.refl _ _ | with_reducible refine Below.drew ?_ | with_reducible refine Below.setCell ?_ (by simp <;> omega) _ | with_reducible refine Below.alloc ?_ (by simp <;> omega) _)

theorem lnew_spec (w : World) : Calls Try.prog 13 #[] w fun e w' => (∃ a c, e = .returned (newL a c)) ∧ Below w.heap.size w w' := by
  go_enter Try.func13, Try.ntmps13
  go_wp2
  refine bodyPost_ret (v := newL (some ⟨w.heap.size + 1, 0, none⟩) 0) (by simp [results, Try.results13, go_sem]) rfl ⟨⟨_, _, rfl⟩, ?_⟩
  repeat (first | with_reducible exact Below.refl _ _ | with_reducible refine Below.drew ?_ | with_reducible refine Below.setCell ?_ (by simp <;> omega) _ | with_reducible refine Below.alloc ?_ (by simp <;> omega) _)

theorem lsame_new (a b : Option Addr) (c d : Nat) (w : World) : Calls Try.prog 12 #[newL a c, newL b d] w fun e w' => e = .returned (.bool true) ∧ Below w.heap.size w w' := by
  have hb := bpush (bpush (Below.refl w.heap.size w) (Obj.cells #[.int .i64 0, .slice a (0 : Nat) c, .int .i64 (-1)] 31)) (Obj.cells #[.int .i64 0, .slice b (0 : Nat) d, .int .i64 (-1)] 31)
  go_enter Try.func12, Try.ntmps12
  go_wp2
  go_loop [5] (fun i => i = .int .i64 0) (fun _ => 0)
  case atStart => rfl
  case round =>
    subst hrel
    go_wp2
    go_ret
    exact ⟨rfl, hb⟩

theorem lvalid_new (a : Option Addr) (c : Nat) (w : World) : Calls Try.prog 14 #[newL a c] w fun e w' => e = .returned (.bool true) ∧ Below w.heap.size w w' := by
  have E : lossOk 0 (-1) [] = true := by decide
  have h := lvalid_impl 0 (-1) a 0 c [] w rfl (sl_none _ _ _ _)
  rw [E] at h
  exact h

theorem lbytes_new (a : Option Addr) (c : Nat) (w : World) : Calls Try.prog 15 #[newL a c] w fun e w' => e = .returned (.int .i64 0) ∧ Below w.heap.size w w' := by
  have H := Lib.hid (lvalid_new a c)
  go_enter Try.func15, Try.ntmps15
  go_wp2_with fail
  refine (H.out _).mono ?_
  rintro e w1 ⟨rfl, hb1⟩
  have B1 := (Blk.new w #[.int .i64 0, .slice a (0 : Nat) c, .int .i64 (-1)] 31).below hb1
  have c0 := B1.cell 0 rfl
  have c1 := B1.cell 1 rfl
  have c2 := B1.cell 2 rfl
  have hb := bstep (bpush (Below.refl w.heap.size w) _) hb1
  clear B1
  go_wp2
  go_loop [3, 12] (fun q i => q = .int .i64 0 ∧ i = .int .i64 0) (fun _ _ => 0)
  case atStart => exact ⟨rfl, rfl⟩
  case round =>
    obtain ⟨rfl, rfl⟩ := hrel
    go_wp2
    go_ret
    exact ⟨rfl, hb⟩

theorem lmark_new (a : Option Addr) (c : Nat) (k : Int) (w : World) : Calls Try.prog 18 #[newL a c, .int .i64 k] w fun e w' => e = .returned (.int .i64 k) ∧ Below w.heap.size w w' := by
  have hb := bpush (Below.refl w.heap.size w) (Obj.cells #[.int .i64 0, .slice a (0 : Nat) c, .int .i64 (-1)] 31)
  have H : ∀ w : World, Calls Try.prog 31 #[.slice a (0 : Nat) c, .int .i64 k] w fun e w' => e = .returned (.int .i64 k) ∧ w = w' := by
    intro w
    go_enter Try.func31, Try.ntmps31
    go_wp2
    go_loop [1, 5] (fun q i => q = .int .i64 k ∧ i = .int .i64 0) (fun _ _ => 0)
    case atStart => exact ⟨rfl, rfl⟩
    case round =>
      obtain ⟨rfl, rfl⟩ := hrel
      go_wp2
      go_ret
      exact ⟨rfl, rfl⟩
  have H := Lib.hid H
  go_enter Try.func18, Try.ntmps18
  go_wp2_with fail
  refine (H.out _).mono ?_
  rintro e w1 ⟨rfl, rfl⟩
  go_wp2_with fail
  go_ret
  exact ⟨rfl, hb⟩

theorem lheld_new (a : Option Addr) (c : Nat) (k : Int) (w : World) (hk : 0 ≤ k) : Calls Try.prog 19 #[newL a c, .int .i64 k] w fun e w' => e = .returned (.int .i64 k) ∧ Below w.heap.size w w' := by
  have hb := bpush (Below.refl w.heap.size w) (Obj.cells #[.int .i64 0, .slice a (0 : Nat) c, .int .i64 (-1)] 31)
  have H : ∀ w : World, Calls Try.prog 32 #[.slice a (0 : Nat) c, .int .i64 k] w fun e w' => e = .returned (.int .i64 k) ∧ w = w' := by
    intro w
    go_enter Try.func32, Try.ntmps32
    go_wp2
    go_loop [1, 5] (fun q i => q = .int .i64 k ∧ i = .int .i64 0) (fun _ _ => 0)
    case atStart => exact ⟨rfl, rfl⟩
    case round =>
      obtain ⟨rfl, rfl⟩ := hrel
      go_wp2
      go_ret
      exact ⟨rfl, rfl⟩
  have H := Lib.hid H
  go_enter Try.func19, Try.ntmps19
  go_wp2_with fail
  refine (H.out _).mono ?_
  rintro e w1 ⟨rfl, rfl⟩
  go_wp2_with fail
  go_ret
  exact ⟨rfl, hb⟩
end Go.Proofs.Ytbhnmelifpakjaa
