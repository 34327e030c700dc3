/-
  No cell of these rows narrows 'for every input' (looked for: loops, veiled, ifaces, maps, wideKeys, modest, calm, conditions, laid).
  DERIVED. THE GIVEN ROWS OF THIS SEAT. 7 by the template 'for every input the law returns true; each argument reads behind the call as it read before'; 0 by the template 'total and deterministic' (their statements: YtompmehlbbddhaaTotals.lean).
  GIVEN WITH THE SEED: the statements are not yours to turn. If you find one false, say at which input.
  Laid BY PROGRAM, IN A SANDBOX (cutbox-rows.mjs): the forced cells as the released guide's own fill.sh prints them over the translation f6ddf2a4a8e6794d… (all of the seat's roots in one cut). By AI agents, Wed Nov 11 2026. No macro, syntax, notation, axiom, sorry.
-/
import Derived.Test.YtompmehlbbddhaaChecked
import GoSem.Claim
import GoSem.ClaimJoined
import GoSem.ClaimMapViews
import Derived.JoinedTies
import Derived.KernelRfl
namespace Go.Proofs.Ytompmehlbbddhaa
/- THE CELL 'sum', in the pinned program and in every row, IS THE sha256 OF THE DUMP (.gsa) THAT YtompmehlbbddhaaProg.lean LOADS. Nothing in Lean hashes anything: it is a label: what it is worth is what the hold of that sum in a sandbox is worth. -/
noncomputable def Try.pinned : Pinned := { name := "ytompmehlbbddhaa", sum := "f6ddf2a4a8e6794ddfde55c50c84aff50600f25320582f8b72858f21a4ca50f6", checked := Try.checked }
namespace Rows
def none {H : Type} : Left H := { results := [], args := [] }

/-- 'laws.FnExactTokenAccept': WHATEVER THE INPUT: true; the input reads as it did. -/
def fnExactTokenAcceptSpec : ChangeSpec := { name := "fnExactTokenAccept", fn := fun _ => fun
  | [d1, d2, d3, d4] => { results := [.lit (.bool true)], args := [d1, d2, d3, d4] }
  | _ => none }
def fnExactTokenAcceptRow : OpenClaim := { program := "ytompmehlbbddhaa", sum := "f6ddf2a4a8e6794ddfde55c50c84aff50600f25320582f8b72858f21a4ca50f6", func := "loop.example/multipathtransport/laws.FnExactTokenAccept", spec := "fnExactTokenAccept", apart := false }
def FnExactTokenAcceptSaid : Prop := fnExactTokenAcceptRow.holds Try.pinned (OpenSpec.ofChange fnExactTokenAcceptSpec)

/-- ITS FALSE NEIGHBOUR: 'it returns false'. Refute it at one input. -/
def fnExactTokenAcceptWrong : ChangeSpec := { name := "fnExactTokenAccept", fn := fun _ => fun
  | [d1, d2, d3, d4] => { results := [.lit (.bool false)], args := [d1, d2, d3, d4] }
  | _ => none }
def FnExactTokenAcceptWrongFalsely : Prop := fnExactTokenAcceptRow.holds Try.pinned (OpenSpec.ofChange fnExactTokenAcceptWrong)

/-- 'laws.FnExactTokenMake': WHATEVER THE INPUT: true; the input reads as it did. -/
def fnExactTokenMakeSpec : ChangeSpec := { name := "fnExactTokenMake", fn := fun _ => fun
  | [d1, d2, d3] => { results := [.lit (.bool true)], args := [d1, d2, d3] }
  | _ => none }
def fnExactTokenMakeRow : OpenClaim := { program := "ytompmehlbbddhaa", sum := "f6ddf2a4a8e6794ddfde55c50c84aff50600f25320582f8b72858f21a4ca50f6", func := "loop.example/multipathtransport/laws.FnExactTokenMake", spec := "fnExactTokenMake", apart := false }
def FnExactTokenMakeSaid : Prop := fnExactTokenMakeRow.holds Try.pinned (OpenSpec.ofChange fnExactTokenMakeSpec)

/-- ITS FALSE NEIGHBOUR: 'it returns false'. Refute it at one input. -/
def fnExactTokenMakeWrong : ChangeSpec := { name := "fnExactTokenMake", fn := fun _ => fun
  | [d1, d2, d3] => { results := [.lit (.bool false)], args := [d1, d2, d3] }
  | _ => none }
def FnExactTokenMakeWrongFalsely : Prop := fnExactTokenMakeRow.holds Try.pinned (OpenSpec.ofChange fnExactTokenMakeWrong)

/-- 'laws.FnTokenFields': WHATEVER THE INPUT: true; the input reads as it did. -/
def fnTokenFieldsSpec : ChangeSpec := { name := "fnTokenFields", fn := fun _ => fun
  | [d] => { results := [.lit (.bool true)], args := [d] }
  | _ => none }
def fnTokenFieldsRow : OpenClaim := { program := "ytompmehlbbddhaa", sum := "f6ddf2a4a8e6794ddfde55c50c84aff50600f25320582f8b72858f21a4ca50f6", func := "loop.example/multipathtransport/laws.FnTokenFields", spec := "fnTokenFields", apart := false }
def FnTokenFieldsSaid : Prop := fnTokenFieldsRow.holds Try.pinned (OpenSpec.ofChange fnTokenFieldsSpec)

/-- ITS FALSE NEIGHBOUR: 'it returns false'. Refute it at one input. -/
def fnTokenFieldsWrong : ChangeSpec := { name := "fnTokenFields", fn := fun _ => fun
  | [d] => { results := [.lit (.bool false)], args := [d] }
  | _ => none }
def FnTokenFieldsWrongFalsely : Prop := fnTokenFieldsRow.holds Try.pinned (OpenSpec.ofChange fnTokenFieldsWrong)

/-- 'laws.FnTokenAddress': WHATEVER THE INPUT: true; the input reads as it did. -/
def fnTokenAddressSpec : ChangeSpec := { name := "fnTokenAddress", fn := fun _ => fun
  | [d1, d2] => { results := [.lit (.bool true)], args := [d1, d2] }
  | _ => none }
def fnTokenAddressRow : OpenClaim := { program := "ytompmehlbbddhaa", sum := "f6ddf2a4a8e6794ddfde55c50c84aff50600f25320582f8b72858f21a4ca50f6", func := "loop.example/multipathtransport/laws.FnTokenAddress", spec := "fnTokenAddress", apart := false }
def FnTokenAddressSaid : Prop := fnTokenAddressRow.holds Try.pinned (OpenSpec.ofChange fnTokenAddressSpec)

/-- ITS FALSE NEIGHBOUR: 'it returns false'. Refute it at one input. -/
def fnTokenAddressWrong : ChangeSpec := { name := "fnTokenAddress", fn := fun _ => fun
  | [d1, d2] => { results := [.lit (.bool false)], args := [d1, d2] }
  | _ => none }
def FnTokenAddressWrongFalsely : Prop := fnTokenAddressRow.holds Try.pinned (OpenSpec.ofChange fnTokenAddressWrong)

/-- 'laws.FnTokenLife': WHATEVER THE INPUT: true; the input reads as it did. -/
def fnTokenLifeSpec : ChangeSpec := { name := "fnTokenLife", fn := fun _ => fun
  | [d1, d2] => { results := [.lit (.bool true)], args := [d1, d2] }
  | _ => none }
def fnTokenLifeRow : OpenClaim := { program := "ytompmehlbbddhaa", sum := "f6ddf2a4a8e6794ddfde55c50c84aff50600f25320582f8b72858f21a4ca50f6", func := "loop.example/multipathtransport/laws.FnTokenLife", spec := "fnTokenLife", apart := false }
def FnTokenLifeSaid : Prop := fnTokenLifeRow.holds Try.pinned (OpenSpec.ofChange fnTokenLifeSpec)

/-- ITS FALSE NEIGHBOUR: 'it returns false'. Refute it at one input. -/
def fnTokenLifeWrong : ChangeSpec := { name := "fnTokenLife", fn := fun _ => fun
  | [d1, d2] => { results := [.lit (.bool false)], args := [d1, d2] }
  | _ => none }
def FnTokenLifeWrongFalsely : Prop := fnTokenLifeRow.holds Try.pinned (OpenSpec.ofChange fnTokenLifeWrong)

/-- 'laws.FnTokenTag': WHATEVER THE INPUT: true; the input reads as it did. -/
def fnTokenTagSpec : ChangeSpec := { name := "fnTokenTag", fn := fun _ => fun
  | [d1, d2] => { results := [.lit (.bool true)], args := [d1, d2] }
  | _ => none }
def fnTokenTagRow : OpenClaim := { program := "ytompmehlbbddhaa", sum := "f6ddf2a4a8e6794ddfde55c50c84aff50600f25320582f8b72858f21a4ca50f6", func := "loop.example/multipathtransport/laws.FnTokenTag", spec := "fnTokenTag", apart := false }
def FnTokenTagSaid : Prop := fnTokenTagRow.holds Try.pinned (OpenSpec.ofChange fnTokenTagSpec)

/-- ITS FALSE NEIGHBOUR: 'it returns false'. Refute it at one input. -/
def fnTokenTagWrong : ChangeSpec := { name := "fnTokenTag", fn := fun _ => fun
  | [d1, d2] => { results := [.lit (.bool false)], args := [d1, d2] }
  | _ => none }
def FnTokenTagWrongFalsely : Prop := fnTokenTagRow.holds Try.pinned (OpenSpec.ofChange fnTokenTagWrong)

/-- 'laws.FnTokenGenuine': WHATEVER THE INPUT: true; the input reads as it did. -/
def fnTokenGenuineSpec : ChangeSpec := { name := "fnTokenGenuine", fn := fun _ => fun
  | [d] => { results := [.lit (.bool true)], args := [d] }
  | _ => none }
def fnTokenGenuineRow : OpenClaim := { program := "ytompmehlbbddhaa", sum := "f6ddf2a4a8e6794ddfde55c50c84aff50600f25320582f8b72858f21a4ca50f6", func := "loop.example/multipathtransport/laws.FnTokenGenuine", spec := "fnTokenGenuine", apart := false }
def FnTokenGenuineSaid : Prop := fnTokenGenuineRow.holds Try.pinned (OpenSpec.ofChange fnTokenGenuineSpec)

/-- ITS FALSE NEIGHBOUR: 'it returns false'. Refute it at one input. -/
def fnTokenGenuineWrong : ChangeSpec := { name := "fnTokenGenuine", fn := fun _ => fun
  | [d] => { results := [.lit (.bool false)], args := [d] }
  | _ => none }
def FnTokenGenuineWrongFalsely : Prop := fnTokenGenuineRow.holds Try.pinned (OpenSpec.ofChange fnTokenGenuineWrong)

/- THE SECOND FORM. 'bulk': how many values and letters a reading holds, each counted each time it is reached (what is shared counts as often as it is met; a slice's spare places count too). A statement '..UptoSaid' is the law's where the arguments, and the package variables that the reading takes, are together of bulk at most 1048576: NARROWER than '..Said'. Prove '..Said' where nothing that the law and all that it calls make is longer than what came in: it says more and counts as full. Else prove '..UptoSaid'. A law counts once. -/
mutual
def uptoBulk {H : Type} : DataW H → Nat
  | .lit (.string bytes) => bytes.length + 1
  | .lit _ => 1
  | .nil => 1
  | .ptr d => uptoBulk d + 1
  | .slice elems spare => uptoBulkAll elems + uptoBulkAll spare + 1
  | .agg parts => uptoBulkAll parts + 1
  | .iface _ d => uptoBulk d + 1
  | .map entries => uptoBulkEntries entries + 1
  | .held _ => 1
def uptoBulkAll {H : Type} : List (DataW H) → Nat
  | [] => 0
  | d :: r => uptoBulk d + uptoBulkAll r
def uptoBulkEntries {H : Type} : List (Lit × DataW H) → Nat
  | [] => 0
  | x :: r => uptoBulkEntry x + uptoBulkEntries r
def uptoBulkEntry {H : Type} : Lit × DataW H → Nat
  | (.string bytes, d) => bytes.length + uptoBulk d + 1
  | (_, d) => uptoBulk d + 1
 end
def uptoSmall : (H : Type) → List (DataW H) → Bool := fun _ ds => decide (uptoBulkAll ds ≤ 1048576)
def OpenSpec.upto (s : _root_.Go.ChangeSpec) : _root_.Go.OpenSpec := { _root_.Go.OpenSpec.ofChange s with cond := some uptoSmall }

/-- 'laws.FnExactTokenAccept', WHERE WHAT IT READS IS OF BULK AT MOST 1048576: true; the input reads as it did. -/
def fnExactTokenAcceptUptoRow : OpenClaim := { program := "ytompmehlbbddhaa", sum := "f6ddf2a4a8e6794ddfde55c50c84aff50600f25320582f8b72858f21a4ca50f6", func := "loop.example/multipathtransport/laws.FnExactTokenAccept", spec := "fnExactTokenAccept", apart := false, narrowed := true }
def FnExactTokenAcceptUptoSaid : Prop := fnExactTokenAcceptUptoRow.holds Try.pinned (OpenSpec.upto fnExactTokenAcceptSpec)

/-- 'laws.FnExactTokenMake', WHERE WHAT IT READS IS OF BULK AT MOST 1048576: true; the input reads as it did. -/
def fnExactTokenMakeUptoRow : OpenClaim := { program := "ytompmehlbbddhaa", sum := "f6ddf2a4a8e6794ddfde55c50c84aff50600f25320582f8b72858f21a4ca50f6", func := "loop.example/multipathtransport/laws.FnExactTokenMake", spec := "fnExactTokenMake", apart := false, narrowed := true }
def FnExactTokenMakeUptoSaid : Prop := fnExactTokenMakeUptoRow.holds Try.pinned (OpenSpec.upto fnExactTokenMakeSpec)

/-- 'laws.FnTokenFields', WHERE WHAT IT READS IS OF BULK AT MOST 1048576: true; the input reads as it did. -/
def fnTokenFieldsUptoRow : OpenClaim := { program := "ytompmehlbbddhaa", sum := "f6ddf2a4a8e6794ddfde55c50c84aff50600f25320582f8b72858f21a4ca50f6", func := "loop.example/multipathtransport/laws.FnTokenFields", spec := "fnTokenFields", apart := false, narrowed := true }
def FnTokenFieldsUptoSaid : Prop := fnTokenFieldsUptoRow.holds Try.pinned (OpenSpec.upto fnTokenFieldsSpec)

/-- 'laws.FnTokenAddress', WHERE WHAT IT READS IS OF BULK AT MOST 1048576: true; the input reads as it did. -/
def fnTokenAddressUptoRow : OpenClaim := { program := "ytompmehlbbddhaa", sum := "f6ddf2a4a8e6794ddfde55c50c84aff50600f25320582f8b72858f21a4ca50f6", func := "loop.example/multipathtransport/laws.FnTokenAddress", spec := "fnTokenAddress", apart := false, narrowed := true }
def FnTokenAddressUptoSaid : Prop := fnTokenAddressUptoRow.holds Try.pinned (OpenSpec.upto fnTokenAddressSpec)

/-- 'laws.FnTokenLife', WHERE WHAT IT READS IS OF BULK AT MOST 1048576: true; the input reads as it did. -/
def fnTokenLifeUptoRow : OpenClaim := { program := "ytompmehlbbddhaa", sum := "f6ddf2a4a8e6794ddfde55c50c84aff50600f25320582f8b72858f21a4ca50f6", func := "loop.example/multipathtransport/laws.FnTokenLife", spec := "fnTokenLife", apart := false, narrowed := true }
def FnTokenLifeUptoSaid : Prop := fnTokenLifeUptoRow.holds Try.pinned (OpenSpec.upto fnTokenLifeSpec)

/-- 'laws.FnTokenTag', WHERE WHAT IT READS IS OF BULK AT MOST 1048576: true; the input reads as it did. -/
def fnTokenTagUptoRow : OpenClaim := { program := "ytompmehlbbddhaa", sum := "f6ddf2a4a8e6794ddfde55c50c84aff50600f25320582f8b72858f21a4ca50f6", func := "loop.example/multipathtransport/laws.FnTokenTag", spec := "fnTokenTag", apart := false, narrowed := true }
def FnTokenTagUptoSaid : Prop := fnTokenTagUptoRow.holds Try.pinned (OpenSpec.upto fnTokenTagSpec)

/-- 'laws.FnTokenGenuine', WHERE WHAT IT READS IS OF BULK AT MOST 1048576: true; the input reads as it did. -/
def fnTokenGenuineUptoRow : OpenClaim := { program := "ytompmehlbbddhaa", sum := "f6ddf2a4a8e6794ddfde55c50c84aff50600f25320582f8b72858f21a4ca50f6", func := "loop.example/multipathtransport/laws.FnTokenGenuine", spec := "fnTokenGenuine", apart := false, narrowed := true }
def FnTokenGenuineUptoSaid : Prop := fnTokenGenuineUptoRow.holds Try.pinned (OpenSpec.upto fnTokenGenuineSpec)

end Rows
end Go.Proofs.Ytompmehlbbddhaa
