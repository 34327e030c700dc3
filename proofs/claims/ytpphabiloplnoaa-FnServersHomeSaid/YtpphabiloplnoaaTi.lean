/- The draw of a home, and the conversion of a ticket. -/
import Derived.Test.YtpphabiloplnoaaTh
import Derived.Test.YtpphabiloplnoaaTm
import Derived.Test.YtpphabiloplnoaaRq
namespace Go.Proofs.Ytpphabiloplnoaa
open Go.RowKit
set_option linter.unusedVariables false

theorem rs_lo {a w : World} {bk p : Nat} (h : RS a bk p w) : Lo bk a w := h.2
end Go.Proofs.Ytpphabiloplnoaa
