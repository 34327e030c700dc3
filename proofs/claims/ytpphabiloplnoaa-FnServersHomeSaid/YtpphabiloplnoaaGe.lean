/- Registers laid anew, compared, measured. -/
import Derived.Test.YtpphabiloplnoaaGa
import Derived.Test.YtpphabiloplnoaaGo
import Derived.Test.YtpphabiloplnoaaTi
import Derived.OwnWalk
import Derived.Deep.RegionLaw
namespace Go.Proofs.Ytpphabiloplnoaa
open Go.RowKit
set_option linter.unusedVariables false

theorem infoTk : (Try.prog.info? 25).map (fun i => (i.zero, i.size, i.bytes)) = some (some (.agg #[.int .i64 0, .int .i64 0]), 2, 16) := by kernel_rfl
theorem set2 {cs : Array Value} {n k : Nat} {g : Nat → Nat → Value} (hs : cs.size = n * 2) (hk : k < n) (h : ∀ i, i < k → ∀ j, j < 2 → cs[i * 2 + j]? = some (g i j))
    {v0 v1 : Value} (e0 : g k 0 = v0) (e1 : g k 1 = v1) :
    ∀ i, i < k + 1 → ∀ j, j < 2 → ((cs.setIfInBounds (k * 2) v0).setIfInBounds (k * 2 + 1) v1)[i * 2 + j]? = some (g i j) := by
  subst e0 e1
  intro i hi j hj
  by_cases e : i = k
  · subst e
    match j, hj with
    | 0, _ => simp [Array.getElem?_setIfInBounds]; omega
    | 1, _ => simp [Array.getElem?_setIfInBounds]; omega
  · have := h i (by omega) j hj
    simp only [Array.getElem?_setIfInBounds]
    rw [if_neg (by omega), if_neg (by omega)]
    exact this
end Go.Proofs.Ytpphabiloplnoaa
