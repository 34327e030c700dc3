/- The draw of a home, and the conversion of a ticket. -/
import Derived.Test.YtjlaikmilcgmhaaTh
import Derived.Test.YtjlaikmilcgmhaaTm
import Derived.Test.YtjlaikmilcgmhaaRq
namespace Go.Proofs.Ytjlaikmilcgmhaa
open Go.RowKit
set_option linter.unusedVariables false

theorem rs_lo {a w : World} {bk p : Nat} (h : RS a bk p w) : Lo bk a w := h.2
theorem toTicket_c (i s : Int) (w : World) :
    Calls Try.prog 11 #[.agg #[.int .i64 i, .int .i64 s]] w fun e w' => e = .returned (.agg #[.int .i64 i, .int .i64 s]) ∧ Below w.heap.size w w' := by
  go_enter Try.func11, Try.ntmps11
  go_wp2
  refine bodyPost_ret (v := .agg #[.int .i64 i, .int .i64 s]) (by simp [results, Try.results11, go_sem]) rfl ⟨rfl, ?_⟩
  repeat (first | with_reducible exact Below.refl _ _ | with_reducible refine Below.drew ?_ | with_reducible refine Below.setCell ?_ (by simp <;> omega) _ | with_reducible refine Below.alloc ?_ (by simp <;> omega) _)
end Go.Proofs.Ytjlaikmilcgmhaa
