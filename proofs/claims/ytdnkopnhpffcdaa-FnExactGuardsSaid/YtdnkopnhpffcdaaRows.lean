/-
  No cell of these rows narrows 'for every input' (looked for: loops, veiled, ifaces, maps, wideKeys, modest, calm, conditions, laid).
  DERIVED. THE GIVEN ROWS OF THIS SEAT. 11 by the template 'for every input the law returns true; each argument reads behind the call as it read before'; 0 by the template 'total and deterministic' (their statements: YtdnkopnhpffcdaaTotals.lean).
  GIVEN WITH THE SEED: the statements are not yours to turn. If you find one false, say at which input.
  Laid BY PROGRAM, IN A SANDBOX (cutbox-rows.mjs): the forced cells as the released guide's own fill.sh prints them over the translation c71db537a1e1fdb8… (all of the seat's roots in one cut). By AI agents, Wed Nov 11 2026. No macro, syntax, notation, axiom, sorry.
-/
import Derived.Test.YtdnkopnhpffcdaaChecked
import GoSem.Claim
import GoSem.ClaimJoined
import GoSem.ClaimMapViews
import Derived.JoinedTies
import Derived.KernelRfl
namespace Go.Proofs.Ytdnkopnhpffcdaa
/- THE CELL 'sum', in the pinned program and in every row, IS THE sha256 OF THE DUMP (.gsa) THAT YtdnkopnhpffcdaaProg.lean LOADS. Nothing in Lean hashes anything: it is a label: what it is worth is what the hold of that sum in a sandbox is worth. -/
noncomputable def Try.pinned : Pinned := { name := "ytdnkopnhpffcdaa", sum := "c71db537a1e1fdb80cb5ebb0fd2562de89d5ac1510dacfeeca29013f69218880", checked := Try.checked }
namespace Rows
def none {H : Type} : Left H := { results := [], args := [] }

/-- 'laws.FnDeriveMore': WHATEVER THE INPUT: true; the input reads as it did. -/
def fnDeriveMoreSpec : ChangeSpec := { name := "fnDeriveMore", fn := fun _ => fun
  | [d1, d2] => { results := [.lit (.bool true)], args := [d1, d2] }
  | _ => none }
def fnDeriveMoreRow : OpenClaim := { program := "ytdnkopnhpffcdaa", sum := "c71db537a1e1fdb80cb5ebb0fd2562de89d5ac1510dacfeeca29013f69218880", func := "loop.example/multipathtransport/laws.FnDeriveMore", spec := "fnDeriveMore", apart := false }
def FnDeriveMoreSaid : Prop := fnDeriveMoreRow.holds Try.pinned (OpenSpec.ofChange fnDeriveMoreSpec)

/-- ITS FALSE NEIGHBOUR: 'it returns false'. Refute it at one input. -/
def fnDeriveMoreWrong : ChangeSpec := { name := "fnDeriveMore", fn := fun _ => fun
  | [d1, d2] => { results := [.lit (.bool false)], args := [d1, d2] }
  | _ => none }
def FnDeriveMoreWrongFalsely : Prop := fnDeriveMoreRow.holds Try.pinned (OpenSpec.ofChange fnDeriveMoreWrong)

/-- 'laws.FnDeriveReason': WHATEVER THE INPUT: true; the input reads as it did. -/
def fnDeriveReasonSpec : ChangeSpec := { name := "fnDeriveReason", fn := fun _ => fun
  | [d] => { results := [.lit (.bool true)], args := [d] }
  | _ => none }
def fnDeriveReasonRow : OpenClaim := { program := "ytdnkopnhpffcdaa", sum := "c71db537a1e1fdb80cb5ebb0fd2562de89d5ac1510dacfeeca29013f69218880", func := "loop.example/multipathtransport/laws.FnDeriveReason", spec := "fnDeriveReason", apart := false }
def FnDeriveReasonSaid : Prop := fnDeriveReasonRow.holds Try.pinned (OpenSpec.ofChange fnDeriveReasonSpec)

/-- ITS FALSE NEIGHBOUR: 'it returns false'. Refute it at one input. -/
def fnDeriveReasonWrong : ChangeSpec := { name := "fnDeriveReason", fn := fun _ => fun
  | [d] => { results := [.lit (.bool false)], args := [d] }
  | _ => none }
def FnDeriveReasonWrongFalsely : Prop := fnDeriveReasonRow.holds Try.pinned (OpenSpec.ofChange fnDeriveReasonWrong)

/-- 'laws.FnDeriveUnion': WHATEVER THE INPUT: true; the input reads as it did. -/
def fnDeriveUnionSpec : ChangeSpec := { name := "fnDeriveUnion", fn := fun _ => fun
  | [d1, d2] => { results := [.lit (.bool true)], args := [d1, d2] }
  | _ => none }
def fnDeriveUnionRow : OpenClaim := { program := "ytdnkopnhpffcdaa", sum := "c71db537a1e1fdb80cb5ebb0fd2562de89d5ac1510dacfeeca29013f69218880", func := "loop.example/multipathtransport/laws.FnDeriveUnion", spec := "fnDeriveUnion", apart := false }
def FnDeriveUnionSaid : Prop := fnDeriveUnionRow.holds Try.pinned (OpenSpec.ofChange fnDeriveUnionSpec)

/-- ITS FALSE NEIGHBOUR: 'it returns false'. Refute it at one input. -/
def fnDeriveUnionWrong : ChangeSpec := { name := "fnDeriveUnion", fn := fun _ => fun
  | [d1, d2] => { results := [.lit (.bool false)], args := [d1, d2] }
  | _ => none }
def FnDeriveUnionWrongFalsely : Prop := fnDeriveUnionRow.holds Try.pinned (OpenSpec.ofChange fnDeriveUnionWrong)

/-- 'laws.FnExactDerivable': WHATEVER THE INPUT: true; the input reads as it did. -/
def fnExactDerivableSpec : ChangeSpec := { name := "fnExactDerivable", fn := fun _ => fun
  | [d1, d2, d3] => { results := [.lit (.bool true)], args := [d1, d2, d3] }
  | _ => none }
def fnExactDerivableRow : OpenClaim := { program := "ytdnkopnhpffcdaa", sum := "c71db537a1e1fdb80cb5ebb0fd2562de89d5ac1510dacfeeca29013f69218880", func := "loop.example/multipathtransport/laws.FnExactDerivable", spec := "fnExactDerivable", apart := false }
def FnExactDerivableSaid : Prop := fnExactDerivableRow.holds Try.pinned (OpenSpec.ofChange fnExactDerivableSpec)

/-- ITS FALSE NEIGHBOUR: 'it returns false'. Refute it at one input. -/
def fnExactDerivableWrong : ChangeSpec := { name := "fnExactDerivable", fn := fun _ => fun
  | [d1, d2, d3] => { results := [.lit (.bool false)], args := [d1, d2, d3] }
  | _ => none }
def FnExactDerivableWrongFalsely : Prop := fnExactDerivableRow.holds Try.pinned (OpenSpec.ofChange fnExactDerivableWrong)

/-- 'laws.FnDerivable': WHATEVER THE INPUT: true; the input reads as it did. -/
def fnDerivableSpec : ChangeSpec := { name := "fnDerivable", fn := fun _ => fun
  | [d] => { results := [.lit (.bool true)], args := [d] }
  | _ => none }
def fnDerivableRow : OpenClaim := { program := "ytdnkopnhpffcdaa", sum := "c71db537a1e1fdb80cb5ebb0fd2562de89d5ac1510dacfeeca29013f69218880", func := "loop.example/multipathtransport/laws.FnDerivable", spec := "fnDerivable", apart := false }
def FnDerivableSaid : Prop := fnDerivableRow.holds Try.pinned (OpenSpec.ofChange fnDerivableSpec)

/-- ITS FALSE NEIGHBOUR: 'it returns false'. Refute it at one input. -/
def fnDerivableWrong : ChangeSpec := { name := "fnDerivable", fn := fun _ => fun
  | [d] => { results := [.lit (.bool false)], args := [d] }
  | _ => none }
def FnDerivableWrongFalsely : Prop := fnDerivableRow.holds Try.pinned (OpenSpec.ofChange fnDerivableWrong)

/-- 'laws.FnGuards': WHATEVER THE INPUT: true; the input reads as it did. -/
def fnGuardsSpec : ChangeSpec := { name := "fnGuards", fn := fun _ => fun
  | [d] => { results := [.lit (.bool true)], args := [d] }
  | _ => none }
def fnGuardsRow : OpenClaim := { program := "ytdnkopnhpffcdaa", sum := "c71db537a1e1fdb80cb5ebb0fd2562de89d5ac1510dacfeeca29013f69218880", func := "loop.example/multipathtransport/laws.FnGuards", spec := "fnGuards", apart := false }
def FnGuardsSaid : Prop := fnGuardsRow.holds Try.pinned (OpenSpec.ofChange fnGuardsSpec)

/-- ITS FALSE NEIGHBOUR: 'it returns false'. Refute it at one input. -/
def fnGuardsWrong : ChangeSpec := { name := "fnGuards", fn := fun _ => fun
  | [d] => { results := [.lit (.bool false)], args := [d] }
  | _ => none }
def FnGuardsWrongFalsely : Prop := fnGuardsRow.holds Try.pinned (OpenSpec.ofChange fnGuardsWrong)

/-- 'laws.FnGuardsKnown': WHATEVER THE INPUT: true; the input reads as it did. -/
def fnGuardsKnownSpec : ChangeSpec := { name := "fnGuardsKnown", fn := fun _ => fun
  | [d] => { results := [.lit (.bool true)], args := [d] }
  | _ => none }
def fnGuardsKnownRow : OpenClaim := { program := "ytdnkopnhpffcdaa", sum := "c71db537a1e1fdb80cb5ebb0fd2562de89d5ac1510dacfeeca29013f69218880", func := "loop.example/multipathtransport/laws.FnGuardsKnown", spec := "fnGuardsKnown", apart := false }
def FnGuardsKnownSaid : Prop := fnGuardsKnownRow.holds Try.pinned (OpenSpec.ofChange fnGuardsKnownSpec)

/-- ITS FALSE NEIGHBOUR: 'it returns false'. Refute it at one input. -/
def fnGuardsKnownWrong : ChangeSpec := { name := "fnGuardsKnown", fn := fun _ => fun
  | [d] => { results := [.lit (.bool false)], args := [d] }
  | _ => none }
def FnGuardsKnownWrongFalsely : Prop := fnGuardsKnownRow.holds Try.pinned (OpenSpec.ofChange fnGuardsKnownWrong)

/-- 'laws.FnExactDerive': WHATEVER THE INPUT: true; the input reads as it did. -/
def fnExactDeriveSpec : ChangeSpec := { name := "fnExactDerive", fn := fun _ => fun
  | [d1, d2] => { results := [.lit (.bool true)], args := [d1, d2] }
  | _ => none }
def fnExactDeriveRow : OpenClaim := { program := "ytdnkopnhpffcdaa", sum := "c71db537a1e1fdb80cb5ebb0fd2562de89d5ac1510dacfeeca29013f69218880", func := "loop.example/multipathtransport/laws.FnExactDerive", spec := "fnExactDerive", apart := false }
def FnExactDeriveSaid : Prop := fnExactDeriveRow.holds Try.pinned (OpenSpec.ofChange fnExactDeriveSpec)

/-- ITS FALSE NEIGHBOUR: 'it returns false'. Refute it at one input. -/
def fnExactDeriveWrong : ChangeSpec := { name := "fnExactDerive", fn := fun _ => fun
  | [d1, d2] => { results := [.lit (.bool false)], args := [d1, d2] }
  | _ => none }
def FnExactDeriveWrongFalsely : Prop := fnExactDeriveRow.holds Try.pinned (OpenSpec.ofChange fnExactDeriveWrong)

/-- 'laws.FnOpened': WHATEVER THE INPUT: true; the input reads as it did. -/
def fnOpenedSpec : ChangeSpec := { name := "fnOpened", fn := fun _ => fun
  | [d] => { results := [.lit (.bool true)], args := [d] }
  | _ => none }
def fnOpenedRow : OpenClaim := { program := "ytdnkopnhpffcdaa", sum := "c71db537a1e1fdb80cb5ebb0fd2562de89d5ac1510dacfeeca29013f69218880", func := "loop.example/multipathtransport/laws.FnOpened", spec := "fnOpened", apart := false }
def FnOpenedSaid : Prop := fnOpenedRow.holds Try.pinned (OpenSpec.ofChange fnOpenedSpec)

/-- ITS FALSE NEIGHBOUR: 'it returns false'. Refute it at one input. -/
def fnOpenedWrong : ChangeSpec := { name := "fnOpened", fn := fun _ => fun
  | [d] => { results := [.lit (.bool false)], args := [d] }
  | _ => none }
def FnOpenedWrongFalsely : Prop := fnOpenedRow.holds Try.pinned (OpenSpec.ofChange fnOpenedWrong)

/-- 'laws.FnExactOpened': WHATEVER THE INPUT: true; the input reads as it did. -/
def fnExactOpenedSpec : ChangeSpec := { name := "fnExactOpened", fn := fun _ => fun
  | [d1, d2] => { results := [.lit (.bool true)], args := [d1, d2] }
  | _ => none }
def fnExactOpenedRow : OpenClaim := { program := "ytdnkopnhpffcdaa", sum := "c71db537a1e1fdb80cb5ebb0fd2562de89d5ac1510dacfeeca29013f69218880", func := "loop.example/multipathtransport/laws.FnExactOpened", spec := "fnExactOpened", apart := false }
def FnExactOpenedSaid : Prop := fnExactOpenedRow.holds Try.pinned (OpenSpec.ofChange fnExactOpenedSpec)

/-- ITS FALSE NEIGHBOUR: 'it returns false'. Refute it at one input. -/
def fnExactOpenedWrong : ChangeSpec := { name := "fnExactOpened", fn := fun _ => fun
  | [d1, d2] => { results := [.lit (.bool false)], args := [d1, d2] }
  | _ => none }
def FnExactOpenedWrongFalsely : Prop := fnExactOpenedRow.holds Try.pinned (OpenSpec.ofChange fnExactOpenedWrong)

/-- 'laws.FnExactGuards': WHATEVER THE INPUT: true; the input reads as it did. -/
def fnExactGuardsSpec : ChangeSpec := { name := "fnExactGuards", fn := fun _ => fun
  | [d1, d2, d3] => { results := [.lit (.bool true)], args := [d1, d2, d3] }
  | _ => none }
def fnExactGuardsRow : OpenClaim := { program := "ytdnkopnhpffcdaa", sum := "c71db537a1e1fdb80cb5ebb0fd2562de89d5ac1510dacfeeca29013f69218880", func := "loop.example/multipathtransport/laws.FnExactGuards", spec := "fnExactGuards", apart := false }
def FnExactGuardsSaid : Prop := fnExactGuardsRow.holds Try.pinned (OpenSpec.ofChange fnExactGuardsSpec)

/-- ITS FALSE NEIGHBOUR: 'it returns false'. Refute it at one input. -/
def fnExactGuardsWrong : ChangeSpec := { name := "fnExactGuards", fn := fun _ => fun
  | [d1, d2, d3] => { results := [.lit (.bool false)], args := [d1, d2, d3] }
  | _ => none }
def FnExactGuardsWrongFalsely : Prop := fnExactGuardsRow.holds Try.pinned (OpenSpec.ofChange fnExactGuardsWrong)

/- THE SECOND FORM. 'bulk': how many values and letters a reading holds, each counted each time it is reached (what is shared counts as often as it is met; a slice's spare places count too). A statement '..UptoSaid' is the law's where the arguments, and the package variables that the reading takes, are together of bulk at most 1048576: NARROWER than '..Said'. Prove '..Said' where nothing that the law and all that it calls make is longer than what came in: it says more and counts as full. Else prove '..UptoSaid'. A law counts once. -/
mutual
def uptoBulk {H : Type} : DataW H → Nat
  | .lit (.string bytes) => bytes.length + 1
  | .lit _ => 1
  | .nil => 1
  | .ptr d => uptoBulk d + 1
  | .slice elems spare => uptoBulkAll elems + uptoBulkAll spare + 1
  | .agg parts => uptoBulkAll parts + 1
  | .iface _ d => uptoBulk d + 1
  | .map entries => uptoBulkEntries entries + 1
  | .held _ => 1
def uptoBulkAll {H : Type} : List (DataW H) → Nat
  | [] => 0
  | d :: r => uptoBulk d + uptoBulkAll r
def uptoBulkEntries {H : Type} : List (Lit × DataW H) → Nat
  | [] => 0
  | x :: r => uptoBulkEntry x + uptoBulkEntries r
def uptoBulkEntry {H : Type} : Lit × DataW H → Nat
  | (.string bytes, d) => bytes.length + uptoBulk d + 1
  | (_, d) => uptoBulk d + 1
 end
def uptoSmall : (H : Type) → List (DataW H) → Bool := fun _ ds => decide (uptoBulkAll ds ≤ 1048576)
def OpenSpec.upto (s : _root_.Go.ChangeSpec) : _root_.Go.OpenSpec := { _root_.Go.OpenSpec.ofChange s with cond := some uptoSmall }

/-- 'laws.FnDeriveMore', WHERE WHAT IT READS IS OF BULK AT MOST 1048576: true; the input reads as it did. -/
def fnDeriveMoreUptoRow : OpenClaim := { program := "ytdnkopnhpffcdaa", sum := "c71db537a1e1fdb80cb5ebb0fd2562de89d5ac1510dacfeeca29013f69218880", func := "loop.example/multipathtransport/laws.FnDeriveMore", spec := "fnDeriveMore", apart := false, narrowed := true }
def FnDeriveMoreUptoSaid : Prop := fnDeriveMoreUptoRow.holds Try.pinned (OpenSpec.upto fnDeriveMoreSpec)

/-- 'laws.FnDeriveReason', WHERE WHAT IT READS IS OF BULK AT MOST 1048576: true; the input reads as it did. -/
def fnDeriveReasonUptoRow : OpenClaim := { program := "ytdnkopnhpffcdaa", sum := "c71db537a1e1fdb80cb5ebb0fd2562de89d5ac1510dacfeeca29013f69218880", func := "loop.example/multipathtransport/laws.FnDeriveReason", spec := "fnDeriveReason", apart := false, narrowed := true }
def FnDeriveReasonUptoSaid : Prop := fnDeriveReasonUptoRow.holds Try.pinned (OpenSpec.upto fnDeriveReasonSpec)

/-- 'laws.FnDeriveUnion', WHERE WHAT IT READS IS OF BULK AT MOST 1048576: true; the input reads as it did. -/
def fnDeriveUnionUptoRow : OpenClaim := { program := "ytdnkopnhpffcdaa", sum := "c71db537a1e1fdb80cb5ebb0fd2562de89d5ac1510dacfeeca29013f69218880", func := "loop.example/multipathtransport/laws.FnDeriveUnion", spec := "fnDeriveUnion", apart := false, narrowed := true }
def FnDeriveUnionUptoSaid : Prop := fnDeriveUnionUptoRow.holds Try.pinned (OpenSpec.upto fnDeriveUnionSpec)

/-- 'laws.FnExactDerivable', WHERE WHAT IT READS IS OF BULK AT MOST 1048576: true; the input reads as it did. -/
def fnExactDerivableUptoRow : OpenClaim := { program := "ytdnkopnhpffcdaa", sum := "c71db537a1e1fdb80cb5ebb0fd2562de89d5ac1510dacfeeca29013f69218880", func := "loop.example/multipathtransport/laws.FnExactDerivable", spec := "fnExactDerivable", apart := false, narrowed := true }
def FnExactDerivableUptoSaid : Prop := fnExactDerivableUptoRow.holds Try.pinned (OpenSpec.upto fnExactDerivableSpec)

/-- 'laws.FnDerivable', WHERE WHAT IT READS IS OF BULK AT MOST 1048576: true; the input reads as it did. -/
def fnDerivableUptoRow : OpenClaim := { program := "ytdnkopnhpffcdaa", sum := "c71db537a1e1fdb80cb5ebb0fd2562de89d5ac1510dacfeeca29013f69218880", func := "loop.example/multipathtransport/laws.FnDerivable", spec := "fnDerivable", apart := false, narrowed := true }
def FnDerivableUptoSaid : Prop := fnDerivableUptoRow.holds Try.pinned (OpenSpec.upto fnDerivableSpec)

/-- 'laws.FnGuards', WHERE WHAT IT READS IS OF BULK AT MOST 1048576: true; the input reads as it did. -/
def fnGuardsUptoRow : OpenClaim := { program := "ytdnkopnhpffcdaa", sum := "c71db537a1e1fdb80cb5ebb0fd2562de89d5ac1510dacfeeca29013f69218880", func := "loop.example/multipathtransport/laws.FnGuards", spec := "fnGuards", apart := false, narrowed := true }
def FnGuardsUptoSaid : Prop := fnGuardsUptoRow.holds Try.pinned (OpenSpec.upto fnGuardsSpec)

/-- 'laws.FnGuardsKnown', WHERE WHAT IT READS IS OF BULK AT MOST 1048576: true; the input reads as it did. -/
def fnGuardsKnownUptoRow : OpenClaim := { program := "ytdnkopnhpffcdaa", sum := "c71db537a1e1fdb80cb5ebb0fd2562de89d5ac1510dacfeeca29013f69218880", func := "loop.example/multipathtransport/laws.FnGuardsKnown", spec := "fnGuardsKnown", apart := false, narrowed := true }
def FnGuardsKnownUptoSaid : Prop := fnGuardsKnownUptoRow.holds Try.pinned (OpenSpec.upto fnGuardsKnownSpec)

/-- 'laws.FnExactDerive', WHERE WHAT IT READS IS OF BULK AT MOST 1048576: true; the input reads as it did. -/
def fnExactDeriveUptoRow : OpenClaim := { program := "ytdnkopnhpffcdaa", sum := "c71db537a1e1fdb80cb5ebb0fd2562de89d5ac1510dacfeeca29013f69218880", func := "loop.example/multipathtransport/laws.FnExactDerive", spec := "fnExactDerive", apart := false, narrowed := true }
def FnExactDeriveUptoSaid : Prop := fnExactDeriveUptoRow.holds Try.pinned (OpenSpec.upto fnExactDeriveSpec)

/-- 'laws.FnOpened', WHERE WHAT IT READS IS OF BULK AT MOST 1048576: true; the input reads as it did. -/
def fnOpenedUptoRow : OpenClaim := { program := "ytdnkopnhpffcdaa", sum := "c71db537a1e1fdb80cb5ebb0fd2562de89d5ac1510dacfeeca29013f69218880", func := "loop.example/multipathtransport/laws.FnOpened", spec := "fnOpened", apart := false, narrowed := true }
def FnOpenedUptoSaid : Prop := fnOpenedUptoRow.holds Try.pinned (OpenSpec.upto fnOpenedSpec)

/-- 'laws.FnExactOpened', WHERE WHAT IT READS IS OF BULK AT MOST 1048576: true; the input reads as it did. -/
def fnExactOpenedUptoRow : OpenClaim := { program := "ytdnkopnhpffcdaa", sum := "c71db537a1e1fdb80cb5ebb0fd2562de89d5ac1510dacfeeca29013f69218880", func := "loop.example/multipathtransport/laws.FnExactOpened", spec := "fnExactOpened", apart := false, narrowed := true }
def FnExactOpenedUptoSaid : Prop := fnExactOpenedUptoRow.holds Try.pinned (OpenSpec.upto fnExactOpenedSpec)

/-- 'laws.FnExactGuards', WHERE WHAT IT READS IS OF BULK AT MOST 1048576: true; the input reads as it did. -/
def fnExactGuardsUptoRow : OpenClaim := { program := "ytdnkopnhpffcdaa", sum := "c71db537a1e1fdb80cb5ebb0fd2562de89d5ac1510dacfeeca29013f69218880", func := "loop.example/multipathtransport/laws.FnExactGuards", spec := "fnExactGuards", apart := false, narrowed := true }
def FnExactGuardsUptoSaid : Prop := fnExactGuardsUptoRow.holds Try.pinned (OpenSpec.upto fnExactGuardsSpec)

end Rows
end Go.Proofs.Ytdnkopnhpffcdaa
