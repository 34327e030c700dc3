/- Two registers that are the same. -/
import Derived.Test.YtjlaikmilcgmhaaGr
import Derived.BigQuiet
namespace Go.Proofs.Ytjlaikmilcgmhaa
open Go.RowKit
set_option linter.unusedVariables false

set_option maxHeartbeats 2000000 in
theorem sameReg_c (now : Int) (a a' : Option Addr) (n cap cap' : Nat) (l : List (Int × Int)) (w : World) (S : Sl 2 w w.heap.size a n (tkG l)) (S' : Sl 2 w w.heap.size a' n (tkG l)) :
    Calls Try.prog 24 #[.agg #[.int .i64 now, .slice a n cap], .agg #[.int .i64 now, .slice a' n cap']] w fun e w' => e = .returned (.bool true) ∧ Below w.heap.size w w' := by
  have hn := S.len
  have HS := Lib.hid S; clear S
  have HS' := Lib.hid S'; clear S'
  have hb0 := bpush (bpush (Below.refl w.heap.size w) (Obj.cells #[.int .i64 now, .slice a n cap] 42)) (Obj.cells #[.int .i64 now, .slice a' n cap'] 42)
  have B0 := (Blk.new w #[.int .i64 now, .slice a n cap] 42).alloc (Obj.cells #[.int .i64 now, .slice a' n cap'] 42)
  have C0 := Blk.new (w.alloc (Obj.cells #[.int .i64 now, .slice a n cap] 42)) #[.int .i64 now, .slice a' n cap'] 42
  simp only [World.size_alloc] at C0
  go_enter Try.func24, Try.ntmps24
  go_wp2_with fail
  go_loopw [5] (fun i wr => ∃ k : Nat, k ≤ n ∧ i = .int .i64 k ∧ Below w.heap.size w wr ∧ Blk wr w.heap.size #[.int .i64 now, .slice a n cap] 42 ∧ Blk wr (w.heap.size + 1) #[.int .i64 now, .slice a' n cap'] 42) (fun i _ => n - (intOf i).toNat)
  case atStart => exact ⟨0, by omega, rfl, hb0, B0, C0⟩
  case round =>
    obtain ⟨k, hk, rfl, hbk, Bk, Ck⟩ := hrel
    clear hb0 B0 C0
    have b1 := Bk.cell 1 rfl
    have c1 := Ck.cell 1 rfl
    by_cases hlt : k < n
    · have hki : (k : Int) < (n : Int) := by omega
      obtain ⟨b, off, rfl, hB, hc⟩ := (HS.out.below hbk).at hlt
      obtain ⟨b', off', rfl, hB', hc'⟩ := (HS'.out.below hbk).at hlt
      obtain ⟨p, hp⟩ : ∃ p, l.getD k (0, 0) = p := ⟨_, rfl⟩
      have x0 := hc k hlt 0 (by omega)
      have x1 := hc k hlt 1 (by omega)
      have y0 := hc' k hlt 0 (by omega)
      have y1 := hc' k hlt 1 (by omega)
      simp only [tkG, Nat.add_zero, hp] at x0 x1 y0 y1
      have hq : ∀ w, (binOp .neq 30 (.agg #[.int .i64 p.1, .int .i64 p.2]) (.agg #[.int .i64 p.1, .int .i64 p.2])).run Try.prog w = .ok (.bool false) w := fun w => by rw [neqv_tk]; simp
      clear hc hc' hp HS HS'
      go_wp2_with fail
      go_quiet (fail)
      go_wp2_with fail
      go_roundw
      case rel => exact ⟨k + 1, by omega, by go_num, bdrewN hbk _, Bk.drewN _, Ck.drewN _⟩
      case measure => simp [intOf]; omega
    · obtain rfl : k = n := by omega
      go_wp2_with fail
      go_ret
      exact ⟨rfl, hbk⟩
end Go.Proofs.Ytjlaikmilcgmhaa
