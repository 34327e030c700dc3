/- Contracts of the exact laws' own helpers on estimates. -/
import Derived.Test.YtjgmindnjceofaaRd
namespace Go.Proofs.Ytjgmindnjceofaa
open Go.RowKit
set_option linter.unusedVariables false

theorem toRtt_c (x y z v : Int) (w : World) :
    Calls Try.prog 14 #[.agg #[.int .i64 x, .int .i64 y, .int .i64 z, .int .i64 v]] w fun e w' =>
      e = .returned (.agg #[.int .i64 x, .int .i64 y, .int .i64 z, .int .i64 v]) ∧ Below w.heap.size w w' := by
  go_enter Try.func14, Try.ntmps14
  go_wp2
  refine bodyPost_ret (v := .agg #[.int .i64 x, .int .i64 y, .int .i64 z, .int .i64 v]) (by simp [results, Try.results14, go_sem]) rfl ⟨rfl, ?_⟩
  repeat (first | with_reducible exact Below.refl _ _ | with_reducible refine Below.setCell ?_ (by simp <;> omega) _ | with_reducible refine Below.alloc ?_ (by simp <;> omega) _)

theorem eqRtt_c (x y z v : Int) (w : World) :
    Calls Try.prog 22 #[.agg #[.int .i64 x, .int .i64 y, .int .i64 z, .int .i64 v], .agg #[.int .i64 x, .int .i64 y, .int .i64 z, .int .i64 v]] w fun e w' =>
      e = .returned (.bool true) ∧ Below w.heap.size w w' := by
  go_enter Try.func22, Try.ntmps22
  go_wp2
  go_ret
  refine ⟨rfl, ?_⟩
  repeat (first | with_reducible exact Below.refl _ _ | with_reducible refine Below.setCell ?_ (by simp <;> omega) _ | with_reducible refine Below.alloc ?_ (by simp <;> omega) _)

end Go.Proofs.Ytjgmindnjceofaa
