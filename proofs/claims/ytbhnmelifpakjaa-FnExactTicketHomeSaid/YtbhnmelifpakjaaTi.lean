/- The draw of a home, and the conversion of a ticket. -/
import Derived.Test.YtbhnmelifpakjaaTh
import Derived.Test.YtbhnmelifpakjaaTm
import Derived.Test.YtbhnmelifpakjaaRq
namespace Go.Proofs.Ytbhnmelifpakjaa
open Go.RowKit
set_option linter.unusedVariables false

theorem rs_lo {a w : World} {bk p : Nat} (h : RS a bk p w) : Lo bk a w := h.2
theorem toTicket_c (i s : Int) (w : World) :
    Calls Try.prog 9 #[.agg #[.int .i64 i, .int .i64 s]] w fun e w' => e = .returned (.agg #[.int .i64 i, .int .i64 s]) ∧ Below w.heap.size w w' := by
  go_enter Try.func9, Try.ntmps9
  go_wp2
  refine bodyPost_ret (v := .agg #[.int .i64 i, .int .i64 s]) (by simp [results, Try.results9, go_sem]) rfl ⟨rfl, ?_⟩
  repeat (first | with_reducible exact Below.refl _ _ | with_reducible refine Below.drew ?_ | with_reducible refine Below.setCell ?_ (by simp <;> omega) _ | with_reducible refine Below.alloc ?_ (by simp <;> omega) _)
end Go.Proofs.Ytbhnmelifpakjaa
