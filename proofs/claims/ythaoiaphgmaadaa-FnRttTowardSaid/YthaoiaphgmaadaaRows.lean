/-
  No cell of these rows narrows 'for every input' (looked for: loops, veiled, ifaces, maps, wideKeys, modest, calm, conditions, laid).
  DERIVED. THE GIVEN ROWS OF THIS SEAT. 5 by the template 'for every input the law returns true; each argument reads behind the call as it read before'; 0 by the template 'total and deterministic' (their statements: YthaoiaphgmaadaaTotals.lean).
  GIVEN WITH THE SEED: the statements are not yours to turn. If you find one false, say at which input.
  Laid BY PROGRAM, IN A SANDBOX (cutbox-rows.mjs): the forced cells as the released guide's own fill.sh prints them over the translation f15376ea625fe4d4… (all of the seat's roots in one cut). By AI agents, Wed Nov 11 2026. No macro, syntax, notation, axiom, sorry.
-/
import Derived.Test.YthaoiaphgmaadaaChecked
import GoSem.Claim
import GoSem.ClaimJoined
import GoSem.ClaimMapViews
import Derived.JoinedTies
import Derived.KernelRfl
namespace Go.Proofs.Ythaoiaphgmaadaa
/- THE CELL 'sum', in the pinned program and in every row, IS THE sha256 OF THE DUMP (.gsa) THAT YthaoiaphgmaadaaProg.lean LOADS. Nothing in Lean hashes anything: it is a label: what it is worth is what the hold of that sum in a sandbox is worth. -/
noncomputable def Try.pinned : Pinned := { name := "ythaoiaphgmaadaa", sum := "f15376ea625fe4d4a808d4303213c76e6a932adaad634710d623db066ce49c06", checked := Try.checked }
namespace Rows
def none {H : Type} : Left H := { results := [], args := [] }

/-- 'laws.FnRttDelay': WHATEVER THE INPUT: true; the input reads as it did. -/
def fnRttDelaySpec : ChangeSpec := { name := "fnRttDelay", fn := fun _ => fun
  | [d] => { results := [.lit (.bool true)], args := [d] }
  | _ => none }
def fnRttDelayRow : OpenClaim := { program := "ythaoiaphgmaadaa", sum := "f15376ea625fe4d4a808d4303213c76e6a932adaad634710d623db066ce49c06", func := "loop.example/multipathtransport/laws.FnRttDelay", spec := "fnRttDelay", apart := false }
def FnRttDelaySaid : Prop := fnRttDelayRow.holds Try.pinned (OpenSpec.ofChange fnRttDelaySpec)

/-- ITS FALSE NEIGHBOUR: 'it returns false'. Refute it at one input. -/
def fnRttDelayWrong : ChangeSpec := { name := "fnRttDelay", fn := fun _ => fun
  | [d] => { results := [.lit (.bool false)], args := [d] }
  | _ => none }
def FnRttDelayWrongFalsely : Prop := fnRttDelayRow.holds Try.pinned (OpenSpec.ofChange fnRttDelayWrong)

/-- 'laws.FnRttFirst': WHATEVER THE INPUT: true; the input reads as it did. -/
def fnRttFirstSpec : ChangeSpec := { name := "fnRttFirst", fn := fun _ => fun
  | [d] => { results := [.lit (.bool true)], args := [d] }
  | _ => none }
def fnRttFirstRow : OpenClaim := { program := "ythaoiaphgmaadaa", sum := "f15376ea625fe4d4a808d4303213c76e6a932adaad634710d623db066ce49c06", func := "loop.example/multipathtransport/laws.FnRttFirst", spec := "fnRttFirst", apart := false }
def FnRttFirstSaid : Prop := fnRttFirstRow.holds Try.pinned (OpenSpec.ofChange fnRttFirstSpec)

/-- ITS FALSE NEIGHBOUR: 'it returns false'. Refute it at one input. -/
def fnRttFirstWrong : ChangeSpec := { name := "fnRttFirst", fn := fun _ => fun
  | [d] => { results := [.lit (.bool false)], args := [d] }
  | _ => none }
def FnRttFirstWrongFalsely : Prop := fnRttFirstRow.holds Try.pinned (OpenSpec.ofChange fnRttFirstWrong)

/-- 'laws.FnRttLeast': WHATEVER THE INPUT: true; the input reads as it did. -/
def fnRttLeastSpec : ChangeSpec := { name := "fnRttLeast", fn := fun _ => fun
  | [d] => { results := [.lit (.bool true)], args := [d] }
  | _ => none }
def fnRttLeastRow : OpenClaim := { program := "ythaoiaphgmaadaa", sum := "f15376ea625fe4d4a808d4303213c76e6a932adaad634710d623db066ce49c06", func := "loop.example/multipathtransport/laws.FnRttLeast", spec := "fnRttLeast", apart := false }
def FnRttLeastSaid : Prop := fnRttLeastRow.holds Try.pinned (OpenSpec.ofChange fnRttLeastSpec)

/-- ITS FALSE NEIGHBOUR: 'it returns false'. Refute it at one input. -/
def fnRttLeastWrong : ChangeSpec := { name := "fnRttLeast", fn := fun _ => fun
  | [d] => { results := [.lit (.bool false)], args := [d] }
  | _ => none }
def FnRttLeastWrongFalsely : Prop := fnRttLeastRow.holds Try.pinned (OpenSpec.ofChange fnRttLeastWrong)

/-- 'laws.FnRttToward': WHATEVER THE INPUT: true; the input reads as it did. -/
def fnRttTowardSpec : ChangeSpec := { name := "fnRttToward", fn := fun _ => fun
  | [d] => { results := [.lit (.bool true)], args := [d] }
  | _ => none }
def fnRttTowardRow : OpenClaim := { program := "ythaoiaphgmaadaa", sum := "f15376ea625fe4d4a808d4303213c76e6a932adaad634710d623db066ce49c06", func := "loop.example/multipathtransport/laws.FnRttToward", spec := "fnRttToward", apart := false }
def FnRttTowardSaid : Prop := fnRttTowardRow.holds Try.pinned (OpenSpec.ofChange fnRttTowardSpec)

/-- ITS FALSE NEIGHBOUR: 'it returns false'. Refute it at one input. -/
def fnRttTowardWrong : ChangeSpec := { name := "fnRttToward", fn := fun _ => fun
  | [d] => { results := [.lit (.bool false)], args := [d] }
  | _ => none }
def FnRttTowardWrongFalsely : Prop := fnRttTowardRow.holds Try.pinned (OpenSpec.ofChange fnRttTowardWrong)

/-- 'laws.FnRttValid': WHATEVER THE INPUT: true; the input reads as it did. -/
def fnRttValidSpec : ChangeSpec := { name := "fnRttValid", fn := fun _ => fun
  | [d] => { results := [.lit (.bool true)], args := [d] }
  | _ => none }
def fnRttValidRow : OpenClaim := { program := "ythaoiaphgmaadaa", sum := "f15376ea625fe4d4a808d4303213c76e6a932adaad634710d623db066ce49c06", func := "loop.example/multipathtransport/laws.FnRttValid", spec := "fnRttValid", apart := false }
def FnRttValidSaid : Prop := fnRttValidRow.holds Try.pinned (OpenSpec.ofChange fnRttValidSpec)

/-- ITS FALSE NEIGHBOUR: 'it returns false'. Refute it at one input. -/
def fnRttValidWrong : ChangeSpec := { name := "fnRttValid", fn := fun _ => fun
  | [d] => { results := [.lit (.bool false)], args := [d] }
  | _ => none }
def FnRttValidWrongFalsely : Prop := fnRttValidRow.holds Try.pinned (OpenSpec.ofChange fnRttValidWrong)

/- THE SECOND FORM. 'bulk': how many values and letters a reading holds, each counted each time it is reached (what is shared counts as often as it is met; a slice's spare places count too). A statement '..UptoSaid' is the law's where the arguments, and the package variables that the reading takes, are together of bulk at most 1048576: NARROWER than '..Said'. Prove '..Said' where nothing that the law and all that it calls make is longer than what came in: it says more and counts as full. Else prove '..UptoSaid'. A law counts once. -/
mutual
def uptoBulk {H : Type} : DataW H → Nat
  | .lit (.string bytes) => bytes.length + 1
  | .lit _ => 1
  | .nil => 1
  | .ptr d => uptoBulk d + 1
  | .slice elems spare => uptoBulkAll elems + uptoBulkAll spare + 1
  | .agg parts => uptoBulkAll parts + 1
  | .iface _ d => uptoBulk d + 1
  | .map entries => uptoBulkEntries entries + 1
  | .held _ => 1
def uptoBulkAll {H : Type} : List (DataW H) → Nat
  | [] => 0
  | d :: r => uptoBulk d + uptoBulkAll r
def uptoBulkEntries {H : Type} : List (Lit × DataW H) → Nat
  | [] => 0
  | x :: r => uptoBulkEntry x + uptoBulkEntries r
def uptoBulkEntry {H : Type} : Lit × DataW H → Nat
  | (.string bytes, d) => bytes.length + uptoBulk d + 1
  | (_, d) => uptoBulk d + 1
 end
def uptoSmall : (H : Type) → List (DataW H) → Bool := fun _ ds => decide (uptoBulkAll ds ≤ 1048576)
def OpenSpec.upto (s : _root_.Go.ChangeSpec) : _root_.Go.OpenSpec := { _root_.Go.OpenSpec.ofChange s with cond := some uptoSmall }

/-- 'laws.FnRttDelay', WHERE WHAT IT READS IS OF BULK AT MOST 1048576: true; the input reads as it did. -/
def fnRttDelayUptoRow : OpenClaim := { program := "ythaoiaphgmaadaa", sum := "f15376ea625fe4d4a808d4303213c76e6a932adaad634710d623db066ce49c06", func := "loop.example/multipathtransport/laws.FnRttDelay", spec := "fnRttDelay", apart := false, narrowed := true }
def FnRttDelayUptoSaid : Prop := fnRttDelayUptoRow.holds Try.pinned (OpenSpec.upto fnRttDelaySpec)

/-- 'laws.FnRttFirst', WHERE WHAT IT READS IS OF BULK AT MOST 1048576: true; the input reads as it did. -/
def fnRttFirstUptoRow : OpenClaim := { program := "ythaoiaphgmaadaa", sum := "f15376ea625fe4d4a808d4303213c76e6a932adaad634710d623db066ce49c06", func := "loop.example/multipathtransport/laws.FnRttFirst", spec := "fnRttFirst", apart := false, narrowed := true }
def FnRttFirstUptoSaid : Prop := fnRttFirstUptoRow.holds Try.pinned (OpenSpec.upto fnRttFirstSpec)

/-- 'laws.FnRttLeast', WHERE WHAT IT READS IS OF BULK AT MOST 1048576: true; the input reads as it did. -/
def fnRttLeastUptoRow : OpenClaim := { program := "ythaoiaphgmaadaa", sum := "f15376ea625fe4d4a808d4303213c76e6a932adaad634710d623db066ce49c06", func := "loop.example/multipathtransport/laws.FnRttLeast", spec := "fnRttLeast", apart := false, narrowed := true }
def FnRttLeastUptoSaid : Prop := fnRttLeastUptoRow.holds Try.pinned (OpenSpec.upto fnRttLeastSpec)

/-- 'laws.FnRttToward', WHERE WHAT IT READS IS OF BULK AT MOST 1048576: true; the input reads as it did. -/
def fnRttTowardUptoRow : OpenClaim := { program := "ythaoiaphgmaadaa", sum := "f15376ea625fe4d4a808d4303213c76e6a932adaad634710d623db066ce49c06", func := "loop.example/multipathtransport/laws.FnRttToward", spec := "fnRttToward", apart := false, narrowed := true }
def FnRttTowardUptoSaid : Prop := fnRttTowardUptoRow.holds Try.pinned (OpenSpec.upto fnRttTowardSpec)

/-- 'laws.FnRttValid', WHERE WHAT IT READS IS OF BULK AT MOST 1048576: true; the input reads as it did. -/
def fnRttValidUptoRow : OpenClaim := { program := "ythaoiaphgmaadaa", sum := "f15376ea625fe4d4a808d4303213c76e6a932adaad634710d623db066ce49c06", func := "loop.example/multipathtransport/laws.FnRttValid", spec := "fnRttValid", apart := false, narrowed := true }
def FnRttValidUptoSaid : Prop := fnRttValidUptoRow.holds Try.pinned (OpenSpec.upto fnRttValidSpec)

end Rows
end Go.Proofs.Ythaoiaphgmaadaa
