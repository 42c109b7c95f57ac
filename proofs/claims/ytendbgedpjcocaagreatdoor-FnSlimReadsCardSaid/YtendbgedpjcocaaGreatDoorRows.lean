/-
  NARROWER THAN 'FOR EVERY INPUT', by the rows' own cells (each row's printed sentence says how): FnRunSame: ifaces, laid · FnRunSet: ifaces, laid · FnRunTwo: ifaces, laid · FnRun: ifaces, laid · FnRunIf: ifaces, laid · FnRunWhile: ifaces, laid · FnSlimReads: ifaces, laid.
  DERIVED. THE GIVEN ROWS OF THIS SEAT. 7 by the template 'for every input the law returns true; each argument reads behind the call as it read before'; 0 by the template 'total and deterministic' (their statements: YtendbgedpjcocaaGreatDoorTotals.lean).
  GIVEN WITH THE SEED: the statements are not yours to turn. If you find one false, say at which input.
  Laid BY PROGRAM, IN A SANDBOX (cutbox-rows.mjs): the forced cells as the released guide's own fill.sh prints them over the translation 58293d74153ae962… (all of the seat's roots in one cut). By AI agents, Wed Nov 11 2026. No macro, syntax, notation, axiom, sorry.
-/
import Derived.Test.YtendbgedpjcocaaGreatDoorChecked
import GoSem.Claim
import GoSem.ClaimJoined
import GoSem.ClaimMapViews
import Derived.JoinedTies
import Derived.KernelRfl
namespace Go.Proofs.YtendbgedpjcocaaGreatDoor
/- THE CELL 'sum', in the pinned program and in every row, IS THE sha256 OF THE DUMP (.gsa) THAT YtendbgedpjcocaaGreatDoorProg.lean LOADS. Nothing in Lean hashes anything: it is a label: what it is worth is what the hold of that sum in a sandbox is worth. -/
noncomputable def Tryz.pinned : Pinned := { name := "ytendbgedpjcocaagreatdoor", sum := "58293d74153ae96278a7fbe21457d1a388d6f1da3f964195264c8025638aeb64", checked := Tryz.checked }
namespace Rows
def none {H : Type} : Left H := { results := [], args := [] }

/- WHAT THE LISTED PACKAGE-LEVEL VARIABLES READ AS WHEN THE CALL BEGINS. Each datum BY PROGRAM (the guide's laid-datum.mjs) off the statement by which the dump's own 'gosem.cut.vars' lays the variable. In a bare row this is a premise. The card (YtendbgedpjcocaaGreatDoorCards.lean) ties it to the program's text. -/
def laid_loop_example_stopgate_impl_errLong {H : Type} : DataW H := .iface "*errors.errorString" (.ptr (.agg [.lit (.string [116, 97, 107, 101, 115, 32, 116, 111, 111, 32, 108, 111, 110, 103])]))

/-- 'laws.FnRunSame': WHATEVER THE INPUT: true; the input reads as it did. -/
def fnRunSameSpec : ChangeSpec := { name := "fnRunSame", vars := ["loop.example/stopgate/impl.errLong"], fn := fun _ => fun
  | [d1, d2, g1] => { results := [.lit (.bool true)], args := [d1, d2], vars := [g1] }
  | _ => none }
def fnRunSameRow : OpenClaim := { program := "ytendbgedpjcocaagreatdoor", sum := "58293d74153ae96278a7fbe21457d1a388d6f1da3f964195264c8025638aeb64", func := "loop.example/stopgate/laws.FnRunSame", spec := "fnRunSame", inPlace := ["internal/reflectlite.TypeOf"], unfollowed := true, recurses := true, named := ["loop.example/stopgate/impl.errLong"], ifaces := true, apart := false, laid := [("loop.example/stopgate/impl.errLong", laid_loop_example_stopgate_impl_errLong)] }
def FnRunSameSaid : Prop := fnRunSameRow.holds Tryz.pinned (OpenSpec.ofChange fnRunSameSpec)

/-- ITS FALSE NEIGHBOUR: 'it returns false'. Refute it at one input. -/
def fnRunSameWrong : ChangeSpec := { name := "fnRunSame", vars := ["loop.example/stopgate/impl.errLong"], fn := fun _ => fun
  | [d1, d2, g1] => { results := [.lit (.bool false)], args := [d1, d2], vars := [g1] }
  | _ => none }
def FnRunSameWrongFalsely : Prop := fnRunSameRow.holds Tryz.pinned (OpenSpec.ofChange fnRunSameWrong)

/-- 'laws.FnRunSet': WHATEVER THE INPUT: true; the input reads as it did. -/
def fnRunSetSpec : ChangeSpec := { name := "fnRunSet", vars := ["loop.example/stopgate/impl.errLong"], fn := fun _ => fun
  | [d1, d2, g1] => { results := [.lit (.bool true)], args := [d1, d2], vars := [g1] }
  | _ => none }
def fnRunSetRow : OpenClaim := { program := "ytendbgedpjcocaagreatdoor", sum := "58293d74153ae96278a7fbe21457d1a388d6f1da3f964195264c8025638aeb64", func := "loop.example/stopgate/laws.FnRunSet", spec := "fnRunSet", inPlace := ["internal/reflectlite.TypeOf"], unfollowed := true, recurses := true, named := ["loop.example/stopgate/impl.errLong"], ifaces := true, apart := false, laid := [("loop.example/stopgate/impl.errLong", laid_loop_example_stopgate_impl_errLong)] }
def FnRunSetSaid : Prop := fnRunSetRow.holds Tryz.pinned (OpenSpec.ofChange fnRunSetSpec)

/-- ITS FALSE NEIGHBOUR: 'it returns false'. Refute it at one input. -/
def fnRunSetWrong : ChangeSpec := { name := "fnRunSet", vars := ["loop.example/stopgate/impl.errLong"], fn := fun _ => fun
  | [d1, d2, g1] => { results := [.lit (.bool false)], args := [d1, d2], vars := [g1] }
  | _ => none }
def FnRunSetWrongFalsely : Prop := fnRunSetRow.holds Tryz.pinned (OpenSpec.ofChange fnRunSetWrong)

/-- 'laws.FnRunTwo': WHATEVER THE INPUT: true; the input reads as it did. -/
def fnRunTwoSpec : ChangeSpec := { name := "fnRunTwo", vars := ["loop.example/stopgate/impl.errLong"], fn := fun _ => fun
  | [d1, d2, g1] => { results := [.lit (.bool true)], args := [d1, d2], vars := [g1] }
  | _ => none }
def fnRunTwoRow : OpenClaim := { program := "ytendbgedpjcocaagreatdoor", sum := "58293d74153ae96278a7fbe21457d1a388d6f1da3f964195264c8025638aeb64", func := "loop.example/stopgate/laws.FnRunTwo", spec := "fnRunTwo", inPlace := ["internal/reflectlite.TypeOf"], unfollowed := true, recurses := true, named := ["loop.example/stopgate/impl.errLong"], ifaces := true, apart := false, laid := [("loop.example/stopgate/impl.errLong", laid_loop_example_stopgate_impl_errLong)] }
def FnRunTwoSaid : Prop := fnRunTwoRow.holds Tryz.pinned (OpenSpec.ofChange fnRunTwoSpec)

/-- ITS FALSE NEIGHBOUR: 'it returns false'. Refute it at one input. -/
def fnRunTwoWrong : ChangeSpec := { name := "fnRunTwo", vars := ["loop.example/stopgate/impl.errLong"], fn := fun _ => fun
  | [d1, d2, g1] => { results := [.lit (.bool false)], args := [d1, d2], vars := [g1] }
  | _ => none }
def FnRunTwoWrongFalsely : Prop := fnRunTwoRow.holds Tryz.pinned (OpenSpec.ofChange fnRunTwoWrong)

/-- 'laws.FnRun': WHATEVER THE INPUT: true; the input reads as it did. -/
def fnRunSpec : ChangeSpec := { name := "fnRun", vars := ["loop.example/stopgate/impl.errLong"], fn := fun _ => fun
  | [d, g1] => { results := [.lit (.bool true)], args := [d], vars := [g1] }
  | _ => none }
def fnRunRow : OpenClaim := { program := "ytendbgedpjcocaagreatdoor", sum := "58293d74153ae96278a7fbe21457d1a388d6f1da3f964195264c8025638aeb64", func := "loop.example/stopgate/laws.FnRun", spec := "fnRun", inPlace := ["internal/reflectlite.TypeOf"], unfollowed := true, recurses := true, named := ["loop.example/stopgate/impl.errLong"], ifaces := true, apart := false, laid := [("loop.example/stopgate/impl.errLong", laid_loop_example_stopgate_impl_errLong)] }
def FnRunSaid : Prop := fnRunRow.holds Tryz.pinned (OpenSpec.ofChange fnRunSpec)

/-- ITS FALSE NEIGHBOUR: 'it returns false'. Refute it at one input. -/
def fnRunWrong : ChangeSpec := { name := "fnRun", vars := ["loop.example/stopgate/impl.errLong"], fn := fun _ => fun
  | [d, g1] => { results := [.lit (.bool false)], args := [d], vars := [g1] }
  | _ => none }
def FnRunWrongFalsely : Prop := fnRunRow.holds Tryz.pinned (OpenSpec.ofChange fnRunWrong)

/-- 'laws.FnRunIf': WHATEVER THE INPUT: true; the input reads as it did. -/
def fnRunIfSpec : ChangeSpec := { name := "fnRunIf", vars := ["loop.example/stopgate/impl.errLong"], fn := fun _ => fun
  | [d1, d2, g1] => { results := [.lit (.bool true)], args := [d1, d2], vars := [g1] }
  | _ => none }
def fnRunIfRow : OpenClaim := { program := "ytendbgedpjcocaagreatdoor", sum := "58293d74153ae96278a7fbe21457d1a388d6f1da3f964195264c8025638aeb64", func := "loop.example/stopgate/laws.FnRunIf", spec := "fnRunIf", inPlace := ["internal/reflectlite.TypeOf"], unfollowed := true, recurses := true, named := ["loop.example/stopgate/impl.errLong"], ifaces := true, apart := false, laid := [("loop.example/stopgate/impl.errLong", laid_loop_example_stopgate_impl_errLong)] }
def FnRunIfSaid : Prop := fnRunIfRow.holds Tryz.pinned (OpenSpec.ofChange fnRunIfSpec)

/-- ITS FALSE NEIGHBOUR: 'it returns false'. Refute it at one input. -/
def fnRunIfWrong : ChangeSpec := { name := "fnRunIf", vars := ["loop.example/stopgate/impl.errLong"], fn := fun _ => fun
  | [d1, d2, g1] => { results := [.lit (.bool false)], args := [d1, d2], vars := [g1] }
  | _ => none }
def FnRunIfWrongFalsely : Prop := fnRunIfRow.holds Tryz.pinned (OpenSpec.ofChange fnRunIfWrong)

/-- 'laws.FnRunWhile': WHATEVER THE INPUT: true; the input reads as it did. -/
def fnRunWhileSpec : ChangeSpec := { name := "fnRunWhile", vars := ["loop.example/stopgate/impl.errLong"], fn := fun _ => fun
  | [d1, d2, g1] => { results := [.lit (.bool true)], args := [d1, d2], vars := [g1] }
  | _ => none }
def fnRunWhileRow : OpenClaim := { program := "ytendbgedpjcocaagreatdoor", sum := "58293d74153ae96278a7fbe21457d1a388d6f1da3f964195264c8025638aeb64", func := "loop.example/stopgate/laws.FnRunWhile", spec := "fnRunWhile", inPlace := ["internal/reflectlite.TypeOf"], unfollowed := true, recurses := true, named := ["loop.example/stopgate/impl.errLong"], ifaces := true, apart := false, laid := [("loop.example/stopgate/impl.errLong", laid_loop_example_stopgate_impl_errLong)] }
def FnRunWhileSaid : Prop := fnRunWhileRow.holds Tryz.pinned (OpenSpec.ofChange fnRunWhileSpec)

/-- ITS FALSE NEIGHBOUR: 'it returns false'. Refute it at one input. -/
def fnRunWhileWrong : ChangeSpec := { name := "fnRunWhile", vars := ["loop.example/stopgate/impl.errLong"], fn := fun _ => fun
  | [d1, d2, g1] => { results := [.lit (.bool false)], args := [d1, d2], vars := [g1] }
  | _ => none }
def FnRunWhileWrongFalsely : Prop := fnRunWhileRow.holds Tryz.pinned (OpenSpec.ofChange fnRunWhileWrong)

/-- 'laws.FnSlimReads': WHATEVER THE INPUT: true; the input reads as it did. -/
def fnSlimReadsSpec : ChangeSpec := { name := "fnSlimReads", vars := ["loop.example/stopgate/impl.errLong"], fn := fun _ => fun
  | [d1, d2, g1] => { results := [.lit (.bool true)], args := [d1, d2], vars := [g1] }
  | _ => none }
def fnSlimReadsRow : OpenClaim := { program := "ytendbgedpjcocaagreatdoor", sum := "58293d74153ae96278a7fbe21457d1a388d6f1da3f964195264c8025638aeb64", func := "loop.example/stopgate/laws.FnSlimReads", spec := "fnSlimReads", inPlace := ["internal/reflectlite.TypeOf"], unfollowed := true, recurses := true, named := ["loop.example/stopgate/impl.errLong"], ifaces := true, apart := false, laid := [("loop.example/stopgate/impl.errLong", laid_loop_example_stopgate_impl_errLong)] }
def FnSlimReadsSaid : Prop := fnSlimReadsRow.holds Tryz.pinned (OpenSpec.ofChange fnSlimReadsSpec)

/-- ITS FALSE NEIGHBOUR: 'it returns false'. Refute it at one input. -/
def fnSlimReadsWrong : ChangeSpec := { name := "fnSlimReads", vars := ["loop.example/stopgate/impl.errLong"], fn := fun _ => fun
  | [d1, d2, g1] => { results := [.lit (.bool false)], args := [d1, d2], vars := [g1] }
  | _ => none }
def FnSlimReadsWrongFalsely : Prop := fnSlimReadsRow.holds Tryz.pinned (OpenSpec.ofChange fnSlimReadsWrong)

/- THE SECOND FORM. 'bulk': how many values and letters a reading holds, each counted each time it is reached (what is shared counts as often as it is met; a slice's spare places count too). A statement '..UptoSaid' is the law's where the arguments, and the package variables that the reading takes, are together of bulk at most 1048576: NARROWER than '..Said'. Prove '..Said' where nothing that the law and all that it calls make is longer than what came in: it says more and counts as full. Else prove '..UptoSaid'. A law counts once. -/
mutual
def uptoBulk {H : Type} : DataW H → Nat
  | .lit (.string bytes) => bytes.length + 1
  | .lit _ => 1
  | .nil => 1
  | .ptr d => uptoBulk d + 1
  | .slice elems spare => uptoBulkAll elems + uptoBulkAll spare + 1
  | .agg parts => uptoBulkAll parts + 1
  | .iface _ d => uptoBulk d + 1
  | .map entries => uptoBulkEntries entries + 1
  | .held _ => 1
def uptoBulkAll {H : Type} : List (DataW H) → Nat
  | [] => 0
  | d :: r => uptoBulk d + uptoBulkAll r
def uptoBulkEntries {H : Type} : List (Lit × DataW H) → Nat
  | [] => 0
  | x :: r => uptoBulkEntry x + uptoBulkEntries r
def uptoBulkEntry {H : Type} : Lit × DataW H → Nat
  | (.string bytes, d) => bytes.length + uptoBulk d + 1
  | (_, d) => uptoBulk d + 1
 end
def uptoSmall : (H : Type) → List (DataW H) → Bool := fun _ ds => decide (uptoBulkAll ds ≤ 1048576)
def OpenSpec.upto (s : _root_.Go.ChangeSpec) : _root_.Go.OpenSpec := { _root_.Go.OpenSpec.ofChange s with cond := some uptoSmall }

/-- 'laws.FnRunSame', WHERE WHAT IT READS IS OF BULK AT MOST 1048576: true; the input reads as it did. -/
def fnRunSameUptoRow : OpenClaim := { program := "ytendbgedpjcocaagreatdoor", sum := "58293d74153ae96278a7fbe21457d1a388d6f1da3f964195264c8025638aeb64", func := "loop.example/stopgate/laws.FnRunSame", spec := "fnRunSame", inPlace := ["internal/reflectlite.TypeOf"], unfollowed := true, recurses := true, named := ["loop.example/stopgate/impl.errLong"], ifaces := true, apart := false, laid := [("loop.example/stopgate/impl.errLong", laid_loop_example_stopgate_impl_errLong)], narrowed := true }
def FnRunSameUptoSaid : Prop := fnRunSameUptoRow.holds Tryz.pinned (OpenSpec.upto fnRunSameSpec)

/-- 'laws.FnRunSet', WHERE WHAT IT READS IS OF BULK AT MOST 1048576: true; the input reads as it did. -/
def fnRunSetUptoRow : OpenClaim := { program := "ytendbgedpjcocaagreatdoor", sum := "58293d74153ae96278a7fbe21457d1a388d6f1da3f964195264c8025638aeb64", func := "loop.example/stopgate/laws.FnRunSet", spec := "fnRunSet", inPlace := ["internal/reflectlite.TypeOf"], unfollowed := true, recurses := true, named := ["loop.example/stopgate/impl.errLong"], ifaces := true, apart := false, laid := [("loop.example/stopgate/impl.errLong", laid_loop_example_stopgate_impl_errLong)], narrowed := true }
def FnRunSetUptoSaid : Prop := fnRunSetUptoRow.holds Tryz.pinned (OpenSpec.upto fnRunSetSpec)

/-- 'laws.FnRunTwo', WHERE WHAT IT READS IS OF BULK AT MOST 1048576: true; the input reads as it did. -/
def fnRunTwoUptoRow : OpenClaim := { program := "ytendbgedpjcocaagreatdoor", sum := "58293d74153ae96278a7fbe21457d1a388d6f1da3f964195264c8025638aeb64", func := "loop.example/stopgate/laws.FnRunTwo", spec := "fnRunTwo", inPlace := ["internal/reflectlite.TypeOf"], unfollowed := true, recurses := true, named := ["loop.example/stopgate/impl.errLong"], ifaces := true, apart := false, laid := [("loop.example/stopgate/impl.errLong", laid_loop_example_stopgate_impl_errLong)], narrowed := true }
def FnRunTwoUptoSaid : Prop := fnRunTwoUptoRow.holds Tryz.pinned (OpenSpec.upto fnRunTwoSpec)

/-- 'laws.FnRun', WHERE WHAT IT READS IS OF BULK AT MOST 1048576: true; the input reads as it did. -/
def fnRunUptoRow : OpenClaim := { program := "ytendbgedpjcocaagreatdoor", sum := "58293d74153ae96278a7fbe21457d1a388d6f1da3f964195264c8025638aeb64", func := "loop.example/stopgate/laws.FnRun", spec := "fnRun", inPlace := ["internal/reflectlite.TypeOf"], unfollowed := true, recurses := true, named := ["loop.example/stopgate/impl.errLong"], ifaces := true, apart := false, laid := [("loop.example/stopgate/impl.errLong", laid_loop_example_stopgate_impl_errLong)], narrowed := true }
def FnRunUptoSaid : Prop := fnRunUptoRow.holds Tryz.pinned (OpenSpec.upto fnRunSpec)

/-- 'laws.FnRunIf', WHERE WHAT IT READS IS OF BULK AT MOST 1048576: true; the input reads as it did. -/
def fnRunIfUptoRow : OpenClaim := { program := "ytendbgedpjcocaagreatdoor", sum := "58293d74153ae96278a7fbe21457d1a388d6f1da3f964195264c8025638aeb64", func := "loop.example/stopgate/laws.FnRunIf", spec := "fnRunIf", inPlace := ["internal/reflectlite.TypeOf"], unfollowed := true, recurses := true, named := ["loop.example/stopgate/impl.errLong"], ifaces := true, apart := false, laid := [("loop.example/stopgate/impl.errLong", laid_loop_example_stopgate_impl_errLong)], narrowed := true }
def FnRunIfUptoSaid : Prop := fnRunIfUptoRow.holds Tryz.pinned (OpenSpec.upto fnRunIfSpec)

/-- 'laws.FnRunWhile', WHERE WHAT IT READS IS OF BULK AT MOST 1048576: true; the input reads as it did. -/
def fnRunWhileUptoRow : OpenClaim := { program := "ytendbgedpjcocaagreatdoor", sum := "58293d74153ae96278a7fbe21457d1a388d6f1da3f964195264c8025638aeb64", func := "loop.example/stopgate/laws.FnRunWhile", spec := "fnRunWhile", inPlace := ["internal/reflectlite.TypeOf"], unfollowed := true, recurses := true, named := ["loop.example/stopgate/impl.errLong"], ifaces := true, apart := false, laid := [("loop.example/stopgate/impl.errLong", laid_loop_example_stopgate_impl_errLong)], narrowed := true }
def FnRunWhileUptoSaid : Prop := fnRunWhileUptoRow.holds Tryz.pinned (OpenSpec.upto fnRunWhileSpec)

/-- 'laws.FnSlimReads', WHERE WHAT IT READS IS OF BULK AT MOST 1048576: true; the input reads as it did. -/
def fnSlimReadsUptoRow : OpenClaim := { program := "ytendbgedpjcocaagreatdoor", sum := "58293d74153ae96278a7fbe21457d1a388d6f1da3f964195264c8025638aeb64", func := "loop.example/stopgate/laws.FnSlimReads", spec := "fnSlimReads", inPlace := ["internal/reflectlite.TypeOf"], unfollowed := true, recurses := true, named := ["loop.example/stopgate/impl.errLong"], ifaces := true, apart := false, laid := [("loop.example/stopgate/impl.errLong", laid_loop_example_stopgate_impl_errLong)], narrowed := true }
def FnSlimReadsUptoSaid : Prop := fnSlimReadsUptoRow.holds Tryz.pinned (OpenSpec.upto fnSlimReadsSpec)

end Rows
end Go.Proofs.YtendbgedpjcocaaGreatDoor
