/-
  No cell of these rows narrows 'for every input' (looked for: loops, veiled, ifaces, maps, wideKeys, modest, calm, conditions, laid).
  DERIVED. THE GIVEN ROWS OF THIS SEAT. 5 by the template 'for every input the law returns true; each argument reads behind the call as it read before'; 0 by the template 'total and deterministic' (their statements: YtbhnmelifpakjaaTotals.lean).
  GIVEN WITH THE SEED: the statements are not yours to turn. If you find one false, say at which input.
  Laid BY PROGRAM, IN A SANDBOX (cutbox-rows.mjs): the forced cells as the released guide's own fill.sh prints them over the translation 6551f7bf2e05ac51… (all of the seat's roots in one cut). By AI agents, Wed Nov 11 2026. No macro, syntax, notation, axiom, sorry.
-/
import Derived.Test.YtbhnmelifpakjaaChecked
import GoSem.Claim
import GoSem.ClaimJoined
import GoSem.ClaimMapViews
import Derived.JoinedTies
import Derived.KernelRfl
namespace Go.Proofs.Ytbhnmelifpakjaa
/- THE CELL 'sum', in the pinned program and in every row, IS THE sha256 OF THE DUMP (.gsa) THAT YtbhnmelifpakjaaProg.lean LOADS. Nothing in Lean hashes anything: it is a label: what it is worth is what the hold of that sum in a sandbox is worth. -/
noncomputable def Try.pinned : Pinned := { name := "ytbhnmelifpakjaa", sum := "6551f7bf2e05ac510824ab79be6bbac5143c3e33e195334d73937fd57913c25d", checked := Try.checked }
namespace Rows
def none {H : Type} : Left H := { results := [], args := [] }

/-- 'laws.FnExactTicketHome': WHATEVER THE INPUT: true; the input reads as it did. -/
def fnExactTicketHomeSpec : ChangeSpec := { name := "fnExactTicketHome", fn := fun _ => fun
  | [d1, d2] => { results := [.lit (.bool true)], args := [d1, d2] }
  | _ => none }
def fnExactTicketHomeRow : OpenClaim := { program := "ytbhnmelifpakjaa", sum := "6551f7bf2e05ac510824ab79be6bbac5143c3e33e195334d73937fd57913c25d", func := "loop.example/multipathtransport/laws.FnExactTicketHome", spec := "fnExactTicketHome", apart := false }
def FnExactTicketHomeSaid : Prop := fnExactTicketHomeRow.holds Try.pinned (OpenSpec.ofChange fnExactTicketHomeSpec)

/-- ITS FALSE NEIGHBOUR: 'it returns false'. Refute it at one input. -/
def fnExactTicketHomeWrong : ChangeSpec := { name := "fnExactTicketHome", fn := fun _ => fun
  | [d1, d2] => { results := [.lit (.bool false)], args := [d1, d2] }
  | _ => none }
def FnExactTicketHomeWrongFalsely : Prop := fnExactTicketHomeRow.holds Try.pinned (OpenSpec.ofChange fnExactTicketHomeWrong)

/-- 'laws.FnLossNew': WHATEVER THE INPUT: true; the input reads as it did. -/
def fnLossNewSpec : ChangeSpec := { name := "fnLossNew", fn := fun _ => fun
  | [d] => { results := [.lit (.bool true)], args := [d] }
  | _ => none }
def fnLossNewRow : OpenClaim := { program := "ytbhnmelifpakjaa", sum := "6551f7bf2e05ac510824ab79be6bbac5143c3e33e195334d73937fd57913c25d", func := "loop.example/multipathtransport/laws.FnLossNew", spec := "fnLossNew", apart := false }
def FnLossNewSaid : Prop := fnLossNewRow.holds Try.pinned (OpenSpec.ofChange fnLossNewSpec)

/-- ITS FALSE NEIGHBOUR: 'it returns false'. Refute it at one input. -/
def fnLossNewWrong : ChangeSpec := { name := "fnLossNew", fn := fun _ => fun
  | [d] => { results := [.lit (.bool false)], args := [d] }
  | _ => none }
def FnLossNewWrongFalsely : Prop := fnLossNewRow.holds Try.pinned (OpenSpec.ofChange fnLossNewWrong)

/-- 'laws.FnTicketHome': WHATEVER THE INPUT: true; the input reads as it did. -/
def fnTicketHomeSpec : ChangeSpec := { name := "fnTicketHome", fn := fun _ => fun
  | [d1, d2] => { results := [.lit (.bool true)], args := [d1, d2] }
  | _ => none }
def fnTicketHomeRow : OpenClaim := { program := "ytbhnmelifpakjaa", sum := "6551f7bf2e05ac510824ab79be6bbac5143c3e33e195334d73937fd57913c25d", func := "loop.example/multipathtransport/laws.FnTicketHome", spec := "fnTicketHome", apart := false }
def FnTicketHomeSaid : Prop := fnTicketHomeRow.holds Try.pinned (OpenSpec.ofChange fnTicketHomeSpec)

/-- ITS FALSE NEIGHBOUR: 'it returns false'. Refute it at one input. -/
def fnTicketHomeWrong : ChangeSpec := { name := "fnTicketHome", fn := fun _ => fun
  | [d1, d2] => { results := [.lit (.bool false)], args := [d1, d2] }
  | _ => none }
def FnTicketHomeWrongFalsely : Prop := fnTicketHomeRow.holds Try.pinned (OpenSpec.ofChange fnTicketHomeWrong)

/-- 'laws.FnExactLossNew': WHATEVER THE INPUT: true; the input reads as it did. -/
def fnExactLossNewSpec : ChangeSpec := { name := "fnExactLossNew", fn := fun _ => fun
  | [] => { results := [.lit (.bool true)], args := [] }
  | _ => none }
def fnExactLossNewRow : OpenClaim := { program := "ytbhnmelifpakjaa", sum := "6551f7bf2e05ac510824ab79be6bbac5143c3e33e195334d73937fd57913c25d", func := "loop.example/multipathtransport/laws.FnExactLossNew", spec := "fnExactLossNew", apart := false }
def FnExactLossNewSaid : Prop := fnExactLossNewRow.holds Try.pinned (OpenSpec.ofChange fnExactLossNewSpec)

/-- ITS FALSE NEIGHBOUR: 'it returns false'. Refute it at one input. -/
def fnExactLossNewWrong : ChangeSpec := { name := "fnExactLossNew", fn := fun _ => fun
  | [] => { results := [.lit (.bool false)], args := [] }
  | _ => none }
def FnExactLossNewWrongFalsely : Prop := fnExactLossNewRow.holds Try.pinned (OpenSpec.ofChange fnExactLossNewWrong)

/-- 'laws.FnExactLossValid': WHATEVER THE INPUT: true; the input reads as it did. -/
def fnExactLossValidSpec : ChangeSpec := { name := "fnExactLossValid", fn := fun _ => fun
  | [d] => { results := [.lit (.bool true)], args := [d] }
  | _ => none }
def fnExactLossValidRow : OpenClaim := { program := "ytbhnmelifpakjaa", sum := "6551f7bf2e05ac510824ab79be6bbac5143c3e33e195334d73937fd57913c25d", func := "loop.example/multipathtransport/laws.FnExactLossValid", spec := "fnExactLossValid", apart := false }
def FnExactLossValidSaid : Prop := fnExactLossValidRow.holds Try.pinned (OpenSpec.ofChange fnExactLossValidSpec)

/-- ITS FALSE NEIGHBOUR: 'it returns false'. Refute it at one input. -/
def fnExactLossValidWrong : ChangeSpec := { name := "fnExactLossValid", fn := fun _ => fun
  | [d] => { results := [.lit (.bool false)], args := [d] }
  | _ => none }
def FnExactLossValidWrongFalsely : Prop := fnExactLossValidRow.holds Try.pinned (OpenSpec.ofChange fnExactLossValidWrong)

/- THE SECOND FORM. 'bulk': how many values and letters a reading holds, each counted each time it is reached (what is shared counts as often as it is met; a slice's spare places count too). A statement '..UptoSaid' is the law's where the arguments, and the package variables that the reading takes, are together of bulk at most 1048576: NARROWER than '..Said'. Prove '..Said' where nothing that the law and all that it calls make is longer than what came in: it says more and counts as full. Else prove '..UptoSaid'. A law counts once. -/
mutual
def uptoBulk {H : Type} : DataW H → Nat
  | .lit (.string bytes) => bytes.length + 1
  | .lit _ => 1
  | .nil => 1
  | .ptr d => uptoBulk d + 1
  | .slice elems spare => uptoBulkAll elems + uptoBulkAll spare + 1
  | .agg parts => uptoBulkAll parts + 1
  | .iface _ d => uptoBulk d + 1
  | .map entries => uptoBulkEntries entries + 1
  | .held _ => 1
def uptoBulkAll {H : Type} : List (DataW H) → Nat
  | [] => 0
  | d :: r => uptoBulk d + uptoBulkAll r
def uptoBulkEntries {H : Type} : List (Lit × DataW H) → Nat
  | [] => 0
  | x :: r => uptoBulkEntry x + uptoBulkEntries r
def uptoBulkEntry {H : Type} : Lit × DataW H → Nat
  | (.string bytes, d) => bytes.length + uptoBulk d + 1
  | (_, d) => uptoBulk d + 1
 end
def uptoSmall : (H : Type) → List (DataW H) → Bool := fun _ ds => decide (uptoBulkAll ds ≤ 1048576)
def OpenSpec.upto (s : _root_.Go.ChangeSpec) : _root_.Go.OpenSpec := { _root_.Go.OpenSpec.ofChange s with cond := some uptoSmall }

/-- 'laws.FnExactTicketHome', WHERE WHAT IT READS IS OF BULK AT MOST 1048576: true; the input reads as it did. -/
def fnExactTicketHomeUptoRow : OpenClaim := { program := "ytbhnmelifpakjaa", sum := "6551f7bf2e05ac510824ab79be6bbac5143c3e33e195334d73937fd57913c25d", func := "loop.example/multipathtransport/laws.FnExactTicketHome", spec := "fnExactTicketHome", apart := false, narrowed := true }
def FnExactTicketHomeUptoSaid : Prop := fnExactTicketHomeUptoRow.holds Try.pinned (OpenSpec.upto fnExactTicketHomeSpec)

/-- 'laws.FnLossNew', WHERE WHAT IT READS IS OF BULK AT MOST 1048576: true; the input reads as it did. -/
def fnLossNewUptoRow : OpenClaim := { program := "ytbhnmelifpakjaa", sum := "6551f7bf2e05ac510824ab79be6bbac5143c3e33e195334d73937fd57913c25d", func := "loop.example/multipathtransport/laws.FnLossNew", spec := "fnLossNew", apart := false, narrowed := true }
def FnLossNewUptoSaid : Prop := fnLossNewUptoRow.holds Try.pinned (OpenSpec.upto fnLossNewSpec)

/-- 'laws.FnTicketHome', WHERE WHAT IT READS IS OF BULK AT MOST 1048576: true; the input reads as it did. -/
def fnTicketHomeUptoRow : OpenClaim := { program := "ytbhnmelifpakjaa", sum := "6551f7bf2e05ac510824ab79be6bbac5143c3e33e195334d73937fd57913c25d", func := "loop.example/multipathtransport/laws.FnTicketHome", spec := "fnTicketHome", apart := false, narrowed := true }
def FnTicketHomeUptoSaid : Prop := fnTicketHomeUptoRow.holds Try.pinned (OpenSpec.upto fnTicketHomeSpec)

/-- 'laws.FnExactLossNew', WHERE WHAT IT READS IS OF BULK AT MOST 1048576: true; the input reads as it did. -/
def fnExactLossNewUptoRow : OpenClaim := { program := "ytbhnmelifpakjaa", sum := "6551f7bf2e05ac510824ab79be6bbac5143c3e33e195334d73937fd57913c25d", func := "loop.example/multipathtransport/laws.FnExactLossNew", spec := "fnExactLossNew", apart := false, narrowed := true }
def FnExactLossNewUptoSaid : Prop := fnExactLossNewUptoRow.holds Try.pinned (OpenSpec.upto fnExactLossNewSpec)

/-- 'laws.FnExactLossValid', WHERE WHAT IT READS IS OF BULK AT MOST 1048576: true; the input reads as it did. -/
def fnExactLossValidUptoRow : OpenClaim := { program := "ytbhnmelifpakjaa", sum := "6551f7bf2e05ac510824ab79be6bbac5143c3e33e195334d73937fd57913c25d", func := "loop.example/multipathtransport/laws.FnExactLossValid", spec := "fnExactLossValid", apart := false, narrowed := true }
def FnExactLossValidUptoSaid : Prop := fnExactLossValidUptoRow.holds Try.pinned (OpenSpec.upto fnExactLossValidSpec)

end Rows
end Go.Proofs.Ytbhnmelifpakjaa
