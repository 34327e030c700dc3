/-
  No cell of these rows narrows 'for every input' (looked for: loops, veiled, ifaces, maps, wideKeys, modest, calm, conditions, laid).
  DERIVED. THE GIVEN ROWS OF THIS SEAT. 10 by the template 'for every input the law returns true; each argument reads behind the call as it read before'; 0 by the template 'total and deterministic' (their statements: YtjgmindnjceofaaTotals.lean).
  GIVEN WITH THE SEED: the statements are not yours to turn. If you find one false, say at which input.
  Laid BY PROGRAM, IN A SANDBOX (cutbox-rows.mjs): the forced cells as the released guide's own fill.sh prints them over the translation 6c074396f4792f8a… (all of the seat's roots in one cut). By AI agents, Wed Nov 11 2026. No macro, syntax, notation, axiom, sorry.
-/
import Derived.Test.YtjgmindnjceofaaChecked
import GoSem.Claim
import GoSem.ClaimJoined
import GoSem.ClaimMapViews
import Derived.JoinedTies
import Derived.KernelRfl
namespace Go.Proofs.Ytjgmindnjceofaa
/- THE CELL 'sum', in the pinned program and in every row, IS THE sha256 OF THE DUMP (.gsa) THAT YtjgmindnjceofaaProg.lean LOADS. Nothing in Lean hashes anything: it is a label: what it is worth is what the hold of that sum in a sandbox is worth. -/
noncomputable def Try.pinned : Pinned := { name := "ytjgmindnjceofaa", sum := "6c074396f4792f8a9fba2d962215929fdca39287eb5c898223132efb5c92869d", checked := Try.checked }
namespace Rows
def none {H : Type} : Left H := { results := [], args := [] }

/-- 'laws.FnExactRttValid': WHATEVER THE INPUT: true; the input reads as it did. -/
def fnExactRttValidSpec : ChangeSpec := { name := "fnExactRttValid", fn := fun _ => fun
  | [d] => { results := [.lit (.bool true)], args := [d] }
  | _ => none }
def fnExactRttValidRow : OpenClaim := { program := "ytjgmindnjceofaa", sum := "6c074396f4792f8a9fba2d962215929fdca39287eb5c898223132efb5c92869d", func := "loop.example/multipathtransport/laws.FnExactRttValid", spec := "fnExactRttValid", apart := false }
def FnExactRttValidSaid : Prop := fnExactRttValidRow.holds Try.pinned (OpenSpec.ofChange fnExactRttValidSpec)

/-- ITS FALSE NEIGHBOUR: 'it returns false'. Refute it at one input. -/
def fnExactRttValidWrong : ChangeSpec := { name := "fnExactRttValid", fn := fun _ => fun
  | [d] => { results := [.lit (.bool false)], args := [d] }
  | _ => none }
def FnExactRttValidWrongFalsely : Prop := fnExactRttValidRow.holds Try.pinned (OpenSpec.ofChange fnExactRttValidWrong)

/-- 'laws.FnExactRttLossDelay': WHATEVER THE INPUT: true; the input reads as it did. -/
def fnExactRttLossDelaySpec : ChangeSpec := { name := "fnExactRttLossDelay", fn := fun _ => fun
  | [d] => { results := [.lit (.bool true)], args := [d] }
  | _ => none }
def fnExactRttLossDelayRow : OpenClaim := { program := "ytjgmindnjceofaa", sum := "6c074396f4792f8a9fba2d962215929fdca39287eb5c898223132efb5c92869d", func := "loop.example/multipathtransport/laws.FnExactRttLossDelay", spec := "fnExactRttLossDelay", apart := false }
def FnExactRttLossDelaySaid : Prop := fnExactRttLossDelayRow.holds Try.pinned (OpenSpec.ofChange fnExactRttLossDelaySpec)

/-- ITS FALSE NEIGHBOUR: 'it returns false'. Refute it at one input. -/
def fnExactRttLossDelayWrong : ChangeSpec := { name := "fnExactRttLossDelay", fn := fun _ => fun
  | [d] => { results := [.lit (.bool false)], args := [d] }
  | _ => none }
def FnExactRttLossDelayWrongFalsely : Prop := fnExactRttLossDelayRow.holds Try.pinned (OpenSpec.ofChange fnExactRttLossDelayWrong)

/-- 'laws.FnExactRttProbe': WHATEVER THE INPUT: true; the input reads as it did. -/
def fnExactRttProbeSpec : ChangeSpec := { name := "fnExactRttProbe", fn := fun _ => fun
  | [d1, d2] => { results := [.lit (.bool true)], args := [d1, d2] }
  | _ => none }
def fnExactRttProbeRow : OpenClaim := { program := "ytjgmindnjceofaa", sum := "6c074396f4792f8a9fba2d962215929fdca39287eb5c898223132efb5c92869d", func := "loop.example/multipathtransport/laws.FnExactRttProbe", spec := "fnExactRttProbe", apart := false }
def FnExactRttProbeSaid : Prop := fnExactRttProbeRow.holds Try.pinned (OpenSpec.ofChange fnExactRttProbeSpec)

/-- ITS FALSE NEIGHBOUR: 'it returns false'. Refute it at one input. -/
def fnExactRttProbeWrong : ChangeSpec := { name := "fnExactRttProbe", fn := fun _ => fun
  | [d1, d2] => { results := [.lit (.bool false)], args := [d1, d2] }
  | _ => none }
def FnExactRttProbeWrongFalsely : Prop := fnExactRttProbeRow.holds Try.pinned (OpenSpec.ofChange fnExactRttProbeWrong)

/-- 'laws.FnExactRttUpdate': WHATEVER THE INPUT: true; the input reads as it did. -/
def fnExactRttUpdateSpec : ChangeSpec := { name := "fnExactRttUpdate", fn := fun _ => fun
  | [d1, d2, d3] => { results := [.lit (.bool true)], args := [d1, d2, d3] }
  | _ => none }
def fnExactRttUpdateRow : OpenClaim := { program := "ytjgmindnjceofaa", sum := "6c074396f4792f8a9fba2d962215929fdca39287eb5c898223132efb5c92869d", func := "loop.example/multipathtransport/laws.FnExactRttUpdate", spec := "fnExactRttUpdate", apart := false }
def FnExactRttUpdateSaid : Prop := fnExactRttUpdateRow.holds Try.pinned (OpenSpec.ofChange fnExactRttUpdateSpec)

/-- ITS FALSE NEIGHBOUR: 'it returns false'. Refute it at one input. -/
def fnExactRttUpdateWrong : ChangeSpec := { name := "fnExactRttUpdate", fn := fun _ => fun
  | [d1, d2, d3] => { results := [.lit (.bool false)], args := [d1, d2, d3] }
  | _ => none }
def FnExactRttUpdateWrongFalsely : Prop := fnExactRttUpdateRow.holds Try.pinned (OpenSpec.ofChange fnExactRttUpdateWrong)

/-- 'laws.FnRttLossDelay': WHATEVER THE INPUT: true; the input reads as it did. -/
def fnRttLossDelaySpec : ChangeSpec := { name := "fnRttLossDelay", fn := fun _ => fun
  | [d] => { results := [.lit (.bool true)], args := [d] }
  | _ => none }
def fnRttLossDelayRow : OpenClaim := { program := "ytjgmindnjceofaa", sum := "6c074396f4792f8a9fba2d962215929fdca39287eb5c898223132efb5c92869d", func := "loop.example/multipathtransport/laws.FnRttLossDelay", spec := "fnRttLossDelay", apart := false }
def FnRttLossDelaySaid : Prop := fnRttLossDelayRow.holds Try.pinned (OpenSpec.ofChange fnRttLossDelaySpec)

/-- ITS FALSE NEIGHBOUR: 'it returns false'. Refute it at one input. -/
def fnRttLossDelayWrong : ChangeSpec := { name := "fnRttLossDelay", fn := fun _ => fun
  | [d] => { results := [.lit (.bool false)], args := [d] }
  | _ => none }
def FnRttLossDelayWrongFalsely : Prop := fnRttLossDelayRow.holds Try.pinned (OpenSpec.ofChange fnRttLossDelayWrong)

/-- 'laws.FnRttLossVary': WHATEVER THE INPUT: true; the input reads as it did. -/
def fnRttLossVarySpec : ChangeSpec := { name := "fnRttLossVary", fn := fun _ => fun
  | [d1, d2] => { results := [.lit (.bool true)], args := [d1, d2] }
  | _ => none }
def fnRttLossVaryRow : OpenClaim := { program := "ytjgmindnjceofaa", sum := "6c074396f4792f8a9fba2d962215929fdca39287eb5c898223132efb5c92869d", func := "loop.example/multipathtransport/laws.FnRttLossVary", spec := "fnRttLossVary", apart := false }
def FnRttLossVarySaid : Prop := fnRttLossVaryRow.holds Try.pinned (OpenSpec.ofChange fnRttLossVarySpec)

/-- ITS FALSE NEIGHBOUR: 'it returns false'. Refute it at one input. -/
def fnRttLossVaryWrong : ChangeSpec := { name := "fnRttLossVary", fn := fun _ => fun
  | [d1, d2] => { results := [.lit (.bool false)], args := [d1, d2] }
  | _ => none }
def FnRttLossVaryWrongFalsely : Prop := fnRttLossVaryRow.holds Try.pinned (OpenSpec.ofChange fnRttLossVaryWrong)

/-- 'laws.FnRttProbe': WHATEVER THE INPUT: true; the input reads as it did. -/
def fnRttProbeSpec : ChangeSpec := { name := "fnRttProbe", fn := fun _ => fun
  | [d] => { results := [.lit (.bool true)], args := [d] }
  | _ => none }
def fnRttProbeRow : OpenClaim := { program := "ytjgmindnjceofaa", sum := "6c074396f4792f8a9fba2d962215929fdca39287eb5c898223132efb5c92869d", func := "loop.example/multipathtransport/laws.FnRttProbe", spec := "fnRttProbe", apart := false }
def FnRttProbeSaid : Prop := fnRttProbeRow.holds Try.pinned (OpenSpec.ofChange fnRttProbeSpec)

/-- ITS FALSE NEIGHBOUR: 'it returns false'. Refute it at one input. -/
def fnRttProbeWrong : ChangeSpec := { name := "fnRttProbe", fn := fun _ => fun
  | [d] => { results := [.lit (.bool false)], args := [d] }
  | _ => none }
def FnRttProbeWrongFalsely : Prop := fnRttProbeRow.holds Try.pinned (OpenSpec.ofChange fnRttProbeWrong)

/-- 'laws.FnRttProbeMore': WHATEVER THE INPUT: true; the input reads as it did. -/
def fnRttProbeMoreSpec : ChangeSpec := { name := "fnRttProbeMore", fn := fun _ => fun
  | [d] => { results := [.lit (.bool true)], args := [d] }
  | _ => none }
def fnRttProbeMoreRow : OpenClaim := { program := "ytjgmindnjceofaa", sum := "6c074396f4792f8a9fba2d962215929fdca39287eb5c898223132efb5c92869d", func := "loop.example/multipathtransport/laws.FnRttProbeMore", spec := "fnRttProbeMore", apart := false }
def FnRttProbeMoreSaid : Prop := fnRttProbeMoreRow.holds Try.pinned (OpenSpec.ofChange fnRttProbeMoreSpec)

/-- ITS FALSE NEIGHBOUR: 'it returns false'. Refute it at one input. -/
def fnRttProbeMoreWrong : ChangeSpec := { name := "fnRttProbeMore", fn := fun _ => fun
  | [d] => { results := [.lit (.bool false)], args := [d] }
  | _ => none }
def FnRttProbeMoreWrongFalsely : Prop := fnRttProbeMoreRow.holds Try.pinned (OpenSpec.ofChange fnRttProbeMoreWrong)

/-- 'laws.FnRttProbeVary': WHATEVER THE INPUT: true; the input reads as it did. -/
def fnRttProbeVarySpec : ChangeSpec := { name := "fnRttProbeVary", fn := fun _ => fun
  | [d1, d2] => { results := [.lit (.bool true)], args := [d1, d2] }
  | _ => none }
def fnRttProbeVaryRow : OpenClaim := { program := "ytjgmindnjceofaa", sum := "6c074396f4792f8a9fba2d962215929fdca39287eb5c898223132efb5c92869d", func := "loop.example/multipathtransport/laws.FnRttProbeVary", spec := "fnRttProbeVary", apart := false }
def FnRttProbeVarySaid : Prop := fnRttProbeVaryRow.holds Try.pinned (OpenSpec.ofChange fnRttProbeVarySpec)

/-- ITS FALSE NEIGHBOUR: 'it returns false'. Refute it at one input. -/
def fnRttProbeVaryWrong : ChangeSpec := { name := "fnRttProbeVary", fn := fun _ => fun
  | [d1, d2] => { results := [.lit (.bool false)], args := [d1, d2] }
  | _ => none }
def FnRttProbeVaryWrongFalsely : Prop := fnRttProbeVaryRow.holds Try.pinned (OpenSpec.ofChange fnRttProbeVaryWrong)

/-- 'laws.FnRttSteady': WHATEVER THE INPUT: true; the input reads as it did. -/
def fnRttSteadySpec : ChangeSpec := { name := "fnRttSteady", fn := fun _ => fun
  | [d] => { results := [.lit (.bool true)], args := [d] }
  | _ => none }
def fnRttSteadyRow : OpenClaim := { program := "ytjgmindnjceofaa", sum := "6c074396f4792f8a9fba2d962215929fdca39287eb5c898223132efb5c92869d", func := "loop.example/multipathtransport/laws.FnRttSteady", spec := "fnRttSteady", apart := false }
def FnRttSteadySaid : Prop := fnRttSteadyRow.holds Try.pinned (OpenSpec.ofChange fnRttSteadySpec)

/-- ITS FALSE NEIGHBOUR: 'it returns false'. Refute it at one input. -/
def fnRttSteadyWrong : ChangeSpec := { name := "fnRttSteady", fn := fun _ => fun
  | [d] => { results := [.lit (.bool false)], args := [d] }
  | _ => none }
def FnRttSteadyWrongFalsely : Prop := fnRttSteadyRow.holds Try.pinned (OpenSpec.ofChange fnRttSteadyWrong)

/- THE SECOND FORM. 'bulk': how many values and letters a reading holds, each counted each time it is reached (what is shared counts as often as it is met; a slice's spare places count too). A statement '..UptoSaid' is the law's where the arguments, and the package variables that the reading takes, are together of bulk at most 1048576: NARROWER than '..Said'. Prove '..Said' where nothing that the law and all that it calls make is longer than what came in: it says more and counts as full. Else prove '..UptoSaid'. A law counts once. -/
mutual
def uptoBulk {H : Type} : DataW H → Nat
  | .lit (.string bytes) => bytes.length + 1
  | .lit _ => 1
  | .nil => 1
  | .ptr d => uptoBulk d + 1
  | .slice elems spare => uptoBulkAll elems + uptoBulkAll spare + 1
  | .agg parts => uptoBulkAll parts + 1
  | .iface _ d => uptoBulk d + 1
  | .map entries => uptoBulkEntries entries + 1
  | .held _ => 1
def uptoBulkAll {H : Type} : List (DataW H) → Nat
  | [] => 0
  | d :: r => uptoBulk d + uptoBulkAll r
def uptoBulkEntries {H : Type} : List (Lit × DataW H) → Nat
  | [] => 0
  | x :: r => uptoBulkEntry x + uptoBulkEntries r
def uptoBulkEntry {H : Type} : Lit × DataW H → Nat
  | (.string bytes, d) => bytes.length + uptoBulk d + 1
  | (_, d) => uptoBulk d + 1
 end
def uptoSmall : (H : Type) → List (DataW H) → Bool := fun _ ds => decide (uptoBulkAll ds ≤ 1048576)
def OpenSpec.upto (s : _root_.Go.ChangeSpec) : _root_.Go.OpenSpec := { _root_.Go.OpenSpec.ofChange s with cond := some uptoSmall }

/-- 'laws.FnExactRttValid', WHERE WHAT IT READS IS OF BULK AT MOST 1048576: true; the input reads as it did. -/
def fnExactRttValidUptoRow : OpenClaim := { program := "ytjgmindnjceofaa", sum := "6c074396f4792f8a9fba2d962215929fdca39287eb5c898223132efb5c92869d", func := "loop.example/multipathtransport/laws.FnExactRttValid", spec := "fnExactRttValid", apart := false, narrowed := true }
def FnExactRttValidUptoSaid : Prop := fnExactRttValidUptoRow.holds Try.pinned (OpenSpec.upto fnExactRttValidSpec)

/-- 'laws.FnExactRttLossDelay', WHERE WHAT IT READS IS OF BULK AT MOST 1048576: true; the input reads as it did. -/
def fnExactRttLossDelayUptoRow : OpenClaim := { program := "ytjgmindnjceofaa", sum := "6c074396f4792f8a9fba2d962215929fdca39287eb5c898223132efb5c92869d", func := "loop.example/multipathtransport/laws.FnExactRttLossDelay", spec := "fnExactRttLossDelay", apart := false, narrowed := true }
def FnExactRttLossDelayUptoSaid : Prop := fnExactRttLossDelayUptoRow.holds Try.pinned (OpenSpec.upto fnExactRttLossDelaySpec)

/-- 'laws.FnExactRttProbe', WHERE WHAT IT READS IS OF BULK AT MOST 1048576: true; the input reads as it did. -/
def fnExactRttProbeUptoRow : OpenClaim := { program := "ytjgmindnjceofaa", sum := "6c074396f4792f8a9fba2d962215929fdca39287eb5c898223132efb5c92869d", func := "loop.example/multipathtransport/laws.FnExactRttProbe", spec := "fnExactRttProbe", apart := false, narrowed := true }
def FnExactRttProbeUptoSaid : Prop := fnExactRttProbeUptoRow.holds Try.pinned (OpenSpec.upto fnExactRttProbeSpec)

/-- 'laws.FnExactRttUpdate', WHERE WHAT IT READS IS OF BULK AT MOST 1048576: true; the input reads as it did. -/
def fnExactRttUpdateUptoRow : OpenClaim := { program := "ytjgmindnjceofaa", sum := "6c074396f4792f8a9fba2d962215929fdca39287eb5c898223132efb5c92869d", func := "loop.example/multipathtransport/laws.FnExactRttUpdate", spec := "fnExactRttUpdate", apart := false, narrowed := true }
def FnExactRttUpdateUptoSaid : Prop := fnExactRttUpdateUptoRow.holds Try.pinned (OpenSpec.upto fnExactRttUpdateSpec)

/-- 'laws.FnRttLossDelay', WHERE WHAT IT READS IS OF BULK AT MOST 1048576: true; the input reads as it did. -/
def fnRttLossDelayUptoRow : OpenClaim := { program := "ytjgmindnjceofaa", sum := "6c074396f4792f8a9fba2d962215929fdca39287eb5c898223132efb5c92869d", func := "loop.example/multipathtransport/laws.FnRttLossDelay", spec := "fnRttLossDelay", apart := false, narrowed := true }
def FnRttLossDelayUptoSaid : Prop := fnRttLossDelayUptoRow.holds Try.pinned (OpenSpec.upto fnRttLossDelaySpec)

/-- 'laws.FnRttLossVary', WHERE WHAT IT READS IS OF BULK AT MOST 1048576: true; the input reads as it did. -/
def fnRttLossVaryUptoRow : OpenClaim := { program := "ytjgmindnjceofaa", sum := "6c074396f4792f8a9fba2d962215929fdca39287eb5c898223132efb5c92869d", func := "loop.example/multipathtransport/laws.FnRttLossVary", spec := "fnRttLossVary", apart := false, narrowed := true }
def FnRttLossVaryUptoSaid : Prop := fnRttLossVaryUptoRow.holds Try.pinned (OpenSpec.upto fnRttLossVarySpec)

/-- 'laws.FnRttProbe', WHERE WHAT IT READS IS OF BULK AT MOST 1048576: true; the input reads as it did. -/
def fnRttProbeUptoRow : OpenClaim := { program := "ytjgmindnjceofaa", sum := "6c074396f4792f8a9fba2d962215929fdca39287eb5c898223132efb5c92869d", func := "loop.example/multipathtransport/laws.FnRttProbe", spec := "fnRttProbe", apart := false, narrowed := true }
def FnRttProbeUptoSaid : Prop := fnRttProbeUptoRow.holds Try.pinned (OpenSpec.upto fnRttProbeSpec)

/-- 'laws.FnRttProbeMore', WHERE WHAT IT READS IS OF BULK AT MOST 1048576: true; the input reads as it did. -/
def fnRttProbeMoreUptoRow : OpenClaim := { program := "ytjgmindnjceofaa", sum := "6c074396f4792f8a9fba2d962215929fdca39287eb5c898223132efb5c92869d", func := "loop.example/multipathtransport/laws.FnRttProbeMore", spec := "fnRttProbeMore", apart := false, narrowed := true }
def FnRttProbeMoreUptoSaid : Prop := fnRttProbeMoreUptoRow.holds Try.pinned (OpenSpec.upto fnRttProbeMoreSpec)

/-- 'laws.FnRttProbeVary', WHERE WHAT IT READS IS OF BULK AT MOST 1048576: true; the input reads as it did. -/
def fnRttProbeVaryUptoRow : OpenClaim := { program := "ytjgmindnjceofaa", sum := "6c074396f4792f8a9fba2d962215929fdca39287eb5c898223132efb5c92869d", func := "loop.example/multipathtransport/laws.FnRttProbeVary", spec := "fnRttProbeVary", apart := false, narrowed := true }
def FnRttProbeVaryUptoSaid : Prop := fnRttProbeVaryUptoRow.holds Try.pinned (OpenSpec.upto fnRttProbeVarySpec)

/-- 'laws.FnRttSteady', WHERE WHAT IT READS IS OF BULK AT MOST 1048576: true; the input reads as it did. -/
def fnRttSteadyUptoRow : OpenClaim := { program := "ytjgmindnjceofaa", sum := "6c074396f4792f8a9fba2d962215929fdca39287eb5c898223132efb5c92869d", func := "loop.example/multipathtransport/laws.FnRttSteady", spec := "fnRttSteady", apart := false, narrowed := true }
def FnRttSteadyUptoSaid : Prop := fnRttSteadyUptoRow.holds Try.pinned (OpenSpec.upto fnRttSteadySpec)

end Rows
end Go.Proofs.Ytjgmindnjceofaa
