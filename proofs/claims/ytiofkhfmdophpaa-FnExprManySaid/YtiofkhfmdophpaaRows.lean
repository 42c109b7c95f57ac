/-
  NARROWER THAN 'FOR EVERY INPUT', by the rows' own cells (each row's printed sentence says how): FnExactExprOk: loops · FnExactSlimReads: loops · FnExactExprOf: loops · FnExactExprMany: loops · FnExactExprText: loops · FnExactSlimExpr: loops.
  DERIVED. THE GIVEN ROWS OF THIS SEAT. 12 by the template 'for every input the law returns true; each argument reads behind the call as it read before'; 0 by the template 'total and deterministic' (their statements: YtiofkhfmdophpaaTotals.lean).
  GIVEN WITH THE SEED: the statements are not yours to turn. If you find one false, say at which input.
  Laid BY PROGRAM, IN A SANDBOX (cutbox-rows.mjs): the forced cells as the released guide's own fill.sh prints them over the translation 0fff607c85e623fd… (all of the seat's roots in one cut). By AI agents, Wed Nov 11 2026. No macro, syntax, notation, axiom, sorry.
-/
import Derived.Test.YtiofkhfmdophpaaChecked
import GoSem.Claim
import GoSem.ClaimJoined
import GoSem.ClaimMapViews
import Derived.JoinedTies
import Derived.KernelRfl
namespace Go.Proofs.Ytiofkhfmdophpaa
/- THE CELL 'sum', in the pinned program and in every row, IS THE sha256 OF THE DUMP (.gsa) THAT YtiofkhfmdophpaaProg.lean LOADS. Nothing in Lean hashes anything: it is a label: what it is worth is what the hold of that sum in a sandbox is worth. -/
noncomputable def Try.pinned : Pinned := { name := "ytiofkhfmdophpaa", sum := "0fff607c85e623fdb0585b81c2a627a22ac10d34d4e014bad8dca5d67bc542e6", checked := Try.checked }
namespace Rows
def none {H : Type} : Left H := { results := [], args := [] }

/-- 'laws.FnExactExprOk': WHATEVER THE INPUT: true; the input reads as it did. -/
def fnExactExprOkSpec : ChangeSpec := { name := "fnExactExprOk", fn := fun _ => fun
  | [d] => { results := [.lit (.bool true)], args := [d] }
  | _ => none }
def fnExactExprOkRow : OpenClaim := { program := "ytiofkhfmdophpaa", sum := "0fff607c85e623fdb0585b81c2a627a22ac10d34d4e014bad8dca5d67bc542e6", func := "loop.example/stopgate/laws.FnExactExprOk", spec := "fnExactExprOk", unfollowed := true, recurses := true, loops := true, apart := false }
def FnExactExprOkSaid : Prop := fnExactExprOkRow.holds Try.pinned (OpenSpec.ofChange fnExactExprOkSpec)

/-- ITS FALSE NEIGHBOUR: 'it returns false'. Refute it at one input. -/
def fnExactExprOkWrong : ChangeSpec := { name := "fnExactExprOk", fn := fun _ => fun
  | [d] => { results := [.lit (.bool false)], args := [d] }
  | _ => none }
def FnExactExprOkWrongFalsely : Prop := fnExactExprOkRow.holds Try.pinned (OpenSpec.ofChange fnExactExprOkWrong)

/-- 'laws.FnExactSlimReads': WHATEVER THE INPUT: true; the input reads as it did. -/
def fnExactSlimReadsSpec : ChangeSpec := { name := "fnExactSlimReads", fn := fun _ => fun
  | [d1, d2] => { results := [.lit (.bool true)], args := [d1, d2] }
  | _ => none }
def fnExactSlimReadsRow : OpenClaim := { program := "ytiofkhfmdophpaa", sum := "0fff607c85e623fdb0585b81c2a627a22ac10d34d4e014bad8dca5d67bc542e6", func := "loop.example/stopgate/laws.FnExactSlimReads", spec := "fnExactSlimReads", unfollowed := true, recurses := true, loops := true, apart := false }
def FnExactSlimReadsSaid : Prop := fnExactSlimReadsRow.holds Try.pinned (OpenSpec.ofChange fnExactSlimReadsSpec)

/-- ITS FALSE NEIGHBOUR: 'it returns false'. Refute it at one input. -/
def fnExactSlimReadsWrong : ChangeSpec := { name := "fnExactSlimReads", fn := fun _ => fun
  | [d1, d2] => { results := [.lit (.bool false)], args := [d1, d2] }
  | _ => none }
def FnExactSlimReadsWrongFalsely : Prop := fnExactSlimReadsRow.holds Try.pinned (OpenSpec.ofChange fnExactSlimReadsWrong)

/-- 'laws.FnExactExprOf': WHATEVER THE INPUT: true; the input reads as it did. -/
def fnExactExprOfSpec : ChangeSpec := { name := "fnExactExprOf", fn := fun _ => fun
  | [d1, d2] => { results := [.lit (.bool true)], args := [d1, d2] }
  | _ => none }
def fnExactExprOfRow : OpenClaim := { program := "ytiofkhfmdophpaa", sum := "0fff607c85e623fdb0585b81c2a627a22ac10d34d4e014bad8dca5d67bc542e6", func := "loop.example/stopgate/laws.FnExactExprOf", spec := "fnExactExprOf", unfollowed := true, recurses := true, loops := true, apart := false }
def FnExactExprOfSaid : Prop := fnExactExprOfRow.holds Try.pinned (OpenSpec.ofChange fnExactExprOfSpec)

/-- ITS FALSE NEIGHBOUR: 'it returns false'. Refute it at one input. -/
def fnExactExprOfWrong : ChangeSpec := { name := "fnExactExprOf", fn := fun _ => fun
  | [d1, d2] => { results := [.lit (.bool false)], args := [d1, d2] }
  | _ => none }
def FnExactExprOfWrongFalsely : Prop := fnExactExprOfRow.holds Try.pinned (OpenSpec.ofChange fnExactExprOfWrong)

/-- 'laws.FnExactExprMany': WHATEVER THE INPUT: true; the input reads as it did. -/
def fnExactExprManySpec : ChangeSpec := { name := "fnExactExprMany", fn := fun _ => fun
  | [d] => { results := [.lit (.bool true)], args := [d] }
  | _ => none }
def fnExactExprManyRow : OpenClaim := { program := "ytiofkhfmdophpaa", sum := "0fff607c85e623fdb0585b81c2a627a22ac10d34d4e014bad8dca5d67bc542e6", func := "loop.example/stopgate/laws.FnExactExprMany", spec := "fnExactExprMany", unfollowed := true, recurses := true, loops := true, apart := false }
def FnExactExprManySaid : Prop := fnExactExprManyRow.holds Try.pinned (OpenSpec.ofChange fnExactExprManySpec)

/-- ITS FALSE NEIGHBOUR: 'it returns false'. Refute it at one input. -/
def fnExactExprManyWrong : ChangeSpec := { name := "fnExactExprMany", fn := fun _ => fun
  | [d] => { results := [.lit (.bool false)], args := [d] }
  | _ => none }
def FnExactExprManyWrongFalsely : Prop := fnExactExprManyRow.holds Try.pinned (OpenSpec.ofChange fnExactExprManyWrong)

/-- 'laws.FnExactExprText': WHATEVER THE INPUT: true; the input reads as it did. -/
def fnExactExprTextSpec : ChangeSpec := { name := "fnExactExprText", fn := fun _ => fun
  | [d] => { results := [.lit (.bool true)], args := [d] }
  | _ => none }
def fnExactExprTextRow : OpenClaim := { program := "ytiofkhfmdophpaa", sum := "0fff607c85e623fdb0585b81c2a627a22ac10d34d4e014bad8dca5d67bc542e6", func := "loop.example/stopgate/laws.FnExactExprText", spec := "fnExactExprText", inPlace := ["internal/abi.NoEscape", "internal/bytealg.MakeNoZero"], unfollowed := true, recurses := true, loops := true, apart := false }
def FnExactExprTextSaid : Prop := fnExactExprTextRow.holds Try.pinned (OpenSpec.ofChange fnExactExprTextSpec)

/-- ITS FALSE NEIGHBOUR: 'it returns false'. Refute it at one input. -/
def fnExactExprTextWrong : ChangeSpec := { name := "fnExactExprText", fn := fun _ => fun
  | [d] => { results := [.lit (.bool false)], args := [d] }
  | _ => none }
def FnExactExprTextWrongFalsely : Prop := fnExactExprTextRow.holds Try.pinned (OpenSpec.ofChange fnExactExprTextWrong)

/-- 'laws.FnExactSlimExpr': WHATEVER THE INPUT: true; the input reads as it did. -/
def fnExactSlimExprSpec : ChangeSpec := { name := "fnExactSlimExpr", fn := fun _ => fun
  | [d] => { results := [.lit (.bool true)], args := [d] }
  | _ => none }
def fnExactSlimExprRow : OpenClaim := { program := "ytiofkhfmdophpaa", sum := "0fff607c85e623fdb0585b81c2a627a22ac10d34d4e014bad8dca5d67bc542e6", func := "loop.example/stopgate/laws.FnExactSlimExpr", spec := "fnExactSlimExpr", unfollowed := true, recurses := true, loops := true, apart := false }
def FnExactSlimExprSaid : Prop := fnExactSlimExprRow.holds Try.pinned (OpenSpec.ofChange fnExactSlimExprSpec)

/-- ITS FALSE NEIGHBOUR: 'it returns false'. Refute it at one input. -/
def fnExactSlimExprWrong : ChangeSpec := { name := "fnExactSlimExpr", fn := fun _ => fun
  | [d] => { results := [.lit (.bool false)], args := [d] }
  | _ => none }
def FnExactSlimExprWrongFalsely : Prop := fnExactSlimExprRow.holds Try.pinned (OpenSpec.ofChange fnExactSlimExprWrong)

/-- 'laws.FnExprSwap': WHATEVER THE INPUT: true; the input reads as it did. -/
def fnExprSwapSpec : ChangeSpec := { name := "fnExprSwap", fn := fun _ => fun
  | [d1, d2] => { results := [.lit (.bool true)], args := [d1, d2] }
  | _ => none }
def fnExprSwapRow : OpenClaim := { program := "ytiofkhfmdophpaa", sum := "0fff607c85e623fdb0585b81c2a627a22ac10d34d4e014bad8dca5d67bc542e6", func := "loop.example/stopgate/laws.FnExprSwap", spec := "fnExprSwap", unfollowed := true, recurses := true, apart := false }
def FnExprSwapSaid : Prop := fnExprSwapRow.holds Try.pinned (OpenSpec.ofChange fnExprSwapSpec)

/-- ITS FALSE NEIGHBOUR: 'it returns false'. Refute it at one input. -/
def fnExprSwapWrong : ChangeSpec := { name := "fnExprSwap", fn := fun _ => fun
  | [d1, d2] => { results := [.lit (.bool false)], args := [d1, d2] }
  | _ => none }
def FnExprSwapWrongFalsely : Prop := fnExprSwapRow.holds Try.pinned (OpenSpec.ofChange fnExprSwapWrong)

/-- 'laws.FnExprMorgan': WHATEVER THE INPUT: true; the input reads as it did. -/
def fnExprMorganSpec : ChangeSpec := { name := "fnExprMorgan", fn := fun _ => fun
  | [d1, d2] => { results := [.lit (.bool true)], args := [d1, d2] }
  | _ => none }
def fnExprMorganRow : OpenClaim := { program := "ytiofkhfmdophpaa", sum := "0fff607c85e623fdb0585b81c2a627a22ac10d34d4e014bad8dca5d67bc542e6", func := "loop.example/stopgate/laws.FnExprMorgan", spec := "fnExprMorgan", unfollowed := true, recurses := true, apart := false }
def FnExprMorganSaid : Prop := fnExprMorganRow.holds Try.pinned (OpenSpec.ofChange fnExprMorganSpec)

/-- ITS FALSE NEIGHBOUR: 'it returns false'. Refute it at one input. -/
def fnExprMorganWrong : ChangeSpec := { name := "fnExprMorgan", fn := fun _ => fun
  | [d1, d2] => { results := [.lit (.bool false)], args := [d1, d2] }
  | _ => none }
def FnExprMorganWrongFalsely : Prop := fnExprMorganRow.holds Try.pinned (OpenSpec.ofChange fnExprMorganWrong)

/-- 'laws.FnExprOn': WHATEVER THE INPUT: true; the input reads as it did. -/
def fnExprOnSpec : ChangeSpec := { name := "fnExprOn", fn := fun _ => fun
  | [d] => { results := [.lit (.bool true)], args := [d] }
  | _ => none }
def fnExprOnRow : OpenClaim := { program := "ytiofkhfmdophpaa", sum := "0fff607c85e623fdb0585b81c2a627a22ac10d34d4e014bad8dca5d67bc542e6", func := "loop.example/stopgate/laws.FnExprOn", spec := "fnExprOn", unfollowed := true, recurses := true, apart := false }
def FnExprOnSaid : Prop := fnExprOnRow.holds Try.pinned (OpenSpec.ofChange fnExprOnSpec)

/-- ITS FALSE NEIGHBOUR: 'it returns false'. Refute it at one input. -/
def fnExprOnWrong : ChangeSpec := { name := "fnExprOn", fn := fun _ => fun
  | [d] => { results := [.lit (.bool false)], args := [d] }
  | _ => none }
def FnExprOnWrongFalsely : Prop := fnExprOnRow.holds Try.pinned (OpenSpec.ofChange fnExprOnWrong)

/-- 'laws.FnExprOf': WHATEVER THE INPUT: true; the input reads as it did. -/
def fnExprOfSpec : ChangeSpec := { name := "fnExprOf", fn := fun _ => fun
  | [d] => { results := [.lit (.bool true)], args := [d] }
  | _ => none }
def fnExprOfRow : OpenClaim := { program := "ytiofkhfmdophpaa", sum := "0fff607c85e623fdb0585b81c2a627a22ac10d34d4e014bad8dca5d67bc542e6", func := "loop.example/stopgate/laws.FnExprOf", spec := "fnExprOf", unfollowed := true, recurses := true, apart := false }
def FnExprOfSaid : Prop := fnExprOfRow.holds Try.pinned (OpenSpec.ofChange fnExprOfSpec)

/-- ITS FALSE NEIGHBOUR: 'it returns false'. Refute it at one input. -/
def fnExprOfWrong : ChangeSpec := { name := "fnExprOf", fn := fun _ => fun
  | [d] => { results := [.lit (.bool false)], args := [d] }
  | _ => none }
def FnExprOfWrongFalsely : Prop := fnExprOfRow.holds Try.pinned (OpenSpec.ofChange fnExprOfWrong)

/-- 'laws.FnExprMany': WHATEVER THE INPUT: true; the input reads as it did. -/
def fnExprManySpec : ChangeSpec := { name := "fnExprMany", fn := fun _ => fun
  | [d] => { results := [.lit (.bool true)], args := [d] }
  | _ => none }
def fnExprManyRow : OpenClaim := { program := "ytiofkhfmdophpaa", sum := "0fff607c85e623fdb0585b81c2a627a22ac10d34d4e014bad8dca5d67bc542e6", func := "loop.example/stopgate/laws.FnExprMany", spec := "fnExprMany", unfollowed := true, recurses := true, apart := false }
def FnExprManySaid : Prop := fnExprManyRow.holds Try.pinned (OpenSpec.ofChange fnExprManySpec)

/-- ITS FALSE NEIGHBOUR: 'it returns false'. Refute it at one input. -/
def fnExprManyWrong : ChangeSpec := { name := "fnExprMany", fn := fun _ => fun
  | [d] => { results := [.lit (.bool false)], args := [d] }
  | _ => none }
def FnExprManyWrongFalsely : Prop := fnExprManyRow.holds Try.pinned (OpenSpec.ofChange fnExprManyWrong)

/-- 'laws.FnExprBent': WHATEVER THE INPUT: true; the input reads as it did. -/
def fnExprBentSpec : ChangeSpec := { name := "fnExprBent", fn := fun _ => fun
  | [d] => { results := [.lit (.bool true)], args := [d] }
  | _ => none }
def fnExprBentRow : OpenClaim := { program := "ytiofkhfmdophpaa", sum := "0fff607c85e623fdb0585b81c2a627a22ac10d34d4e014bad8dca5d67bc542e6", func := "loop.example/stopgate/laws.FnExprBent", spec := "fnExprBent", inPlace := ["internal/abi.NoEscape", "internal/bytealg.MakeNoZero"], unfollowed := true, recurses := true, apart := false }
def FnExprBentSaid : Prop := fnExprBentRow.holds Try.pinned (OpenSpec.ofChange fnExprBentSpec)

/-- ITS FALSE NEIGHBOUR: 'it returns false'. Refute it at one input. -/
def fnExprBentWrong : ChangeSpec := { name := "fnExprBent", fn := fun _ => fun
  | [d] => { results := [.lit (.bool false)], args := [d] }
  | _ => none }
def FnExprBentWrongFalsely : Prop := fnExprBentRow.holds Try.pinned (OpenSpec.ofChange fnExprBentWrong)

/- THE SECOND FORM. 'bulk': how many values and letters a reading holds, each counted each time it is reached (what is shared counts as often as it is met; a slice's spare places count too). A statement '..UptoSaid' is the law's where the arguments, and the package variables that the reading takes, are together of bulk at most 1048576: NARROWER than '..Said'. Prove '..Said' where nothing that the law and all that it calls make is longer than what came in: it says more and counts as full. Else prove '..UptoSaid'. A law counts once. -/
mutual
def uptoBulk {H : Type} : DataW H → Nat
  | .lit (.string bytes) => bytes.length + 1
  | .lit _ => 1
  | .nil => 1
  | .ptr d => uptoBulk d + 1
  | .slice elems spare => uptoBulkAll elems + uptoBulkAll spare + 1
  | .agg parts => uptoBulkAll parts + 1
  | .iface _ d => uptoBulk d + 1
  | .map entries => uptoBulkEntries entries + 1
  | .held _ => 1
def uptoBulkAll {H : Type} : List (DataW H) → Nat
  | [] => 0
  | d :: r => uptoBulk d + uptoBulkAll r
def uptoBulkEntries {H : Type} : List (Lit × DataW H) → Nat
  | [] => 0
  | x :: r => uptoBulkEntry x + uptoBulkEntries r
def uptoBulkEntry {H : Type} : Lit × DataW H → Nat
  | (.string bytes, d) => bytes.length + uptoBulk d + 1
  | (_, d) => uptoBulk d + 1
 end
def uptoSmall : (H : Type) → List (DataW H) → Bool := fun _ ds => decide (uptoBulkAll ds ≤ 1048576)
def OpenSpec.upto (s : _root_.Go.ChangeSpec) : _root_.Go.OpenSpec := { _root_.Go.OpenSpec.ofChange s with cond := some uptoSmall }

/-- 'laws.FnExactExprOk', WHERE WHAT IT READS IS OF BULK AT MOST 1048576: true; the input reads as it did. -/
def fnExactExprOkUptoRow : OpenClaim := { program := "ytiofkhfmdophpaa", sum := "0fff607c85e623fdb0585b81c2a627a22ac10d34d4e014bad8dca5d67bc542e6", func := "loop.example/stopgate/laws.FnExactExprOk", spec := "fnExactExprOk", unfollowed := true, recurses := true, loops := true, apart := false, narrowed := true }
def FnExactExprOkUptoSaid : Prop := fnExactExprOkUptoRow.holds Try.pinned (OpenSpec.upto fnExactExprOkSpec)

/-- 'laws.FnExactSlimReads', WHERE WHAT IT READS IS OF BULK AT MOST 1048576: true; the input reads as it did. -/
def fnExactSlimReadsUptoRow : OpenClaim := { program := "ytiofkhfmdophpaa", sum := "0fff607c85e623fdb0585b81c2a627a22ac10d34d4e014bad8dca5d67bc542e6", func := "loop.example/stopgate/laws.FnExactSlimReads", spec := "fnExactSlimReads", unfollowed := true, recurses := true, loops := true, apart := false, narrowed := true }
def FnExactSlimReadsUptoSaid : Prop := fnExactSlimReadsUptoRow.holds Try.pinned (OpenSpec.upto fnExactSlimReadsSpec)

/-- 'laws.FnExactExprOf', WHERE WHAT IT READS IS OF BULK AT MOST 1048576: true; the input reads as it did. -/
def fnExactExprOfUptoRow : OpenClaim := { program := "ytiofkhfmdophpaa", sum := "0fff607c85e623fdb0585b81c2a627a22ac10d34d4e014bad8dca5d67bc542e6", func := "loop.example/stopgate/laws.FnExactExprOf", spec := "fnExactExprOf", unfollowed := true, recurses := true, loops := true, apart := false, narrowed := true }
def FnExactExprOfUptoSaid : Prop := fnExactExprOfUptoRow.holds Try.pinned (OpenSpec.upto fnExactExprOfSpec)

/-- 'laws.FnExactExprMany', WHERE WHAT IT READS IS OF BULK AT MOST 1048576: true; the input reads as it did. -/
def fnExactExprManyUptoRow : OpenClaim := { program := "ytiofkhfmdophpaa", sum := "0fff607c85e623fdb0585b81c2a627a22ac10d34d4e014bad8dca5d67bc542e6", func := "loop.example/stopgate/laws.FnExactExprMany", spec := "fnExactExprMany", unfollowed := true, recurses := true, loops := true, apart := false, narrowed := true }
def FnExactExprManyUptoSaid : Prop := fnExactExprManyUptoRow.holds Try.pinned (OpenSpec.upto fnExactExprManySpec)

/-- 'laws.FnExactExprText', WHERE WHAT IT READS IS OF BULK AT MOST 1048576: true; the input reads as it did. -/
def fnExactExprTextUptoRow : OpenClaim := { program := "ytiofkhfmdophpaa", sum := "0fff607c85e623fdb0585b81c2a627a22ac10d34d4e014bad8dca5d67bc542e6", func := "loop.example/stopgate/laws.FnExactExprText", spec := "fnExactExprText", inPlace := ["internal/abi.NoEscape", "internal/bytealg.MakeNoZero"], unfollowed := true, recurses := true, loops := true, apart := false, narrowed := true }
def FnExactExprTextUptoSaid : Prop := fnExactExprTextUptoRow.holds Try.pinned (OpenSpec.upto fnExactExprTextSpec)

/-- 'laws.FnExactSlimExpr', WHERE WHAT IT READS IS OF BULK AT MOST 1048576: true; the input reads as it did. -/
def fnExactSlimExprUptoRow : OpenClaim := { program := "ytiofkhfmdophpaa", sum := "0fff607c85e623fdb0585b81c2a627a22ac10d34d4e014bad8dca5d67bc542e6", func := "loop.example/stopgate/laws.FnExactSlimExpr", spec := "fnExactSlimExpr", unfollowed := true, recurses := true, loops := true, apart := false, narrowed := true }
def FnExactSlimExprUptoSaid : Prop := fnExactSlimExprUptoRow.holds Try.pinned (OpenSpec.upto fnExactSlimExprSpec)

/-- 'laws.FnExprSwap', WHERE WHAT IT READS IS OF BULK AT MOST 1048576: true; the input reads as it did. -/
def fnExprSwapUptoRow : OpenClaim := { program := "ytiofkhfmdophpaa", sum := "0fff607c85e623fdb0585b81c2a627a22ac10d34d4e014bad8dca5d67bc542e6", func := "loop.example/stopgate/laws.FnExprSwap", spec := "fnExprSwap", unfollowed := true, recurses := true, apart := false, narrowed := true }
def FnExprSwapUptoSaid : Prop := fnExprSwapUptoRow.holds Try.pinned (OpenSpec.upto fnExprSwapSpec)

/-- 'laws.FnExprMorgan', WHERE WHAT IT READS IS OF BULK AT MOST 1048576: true; the input reads as it did. -/
def fnExprMorganUptoRow : OpenClaim := { program := "ytiofkhfmdophpaa", sum := "0fff607c85e623fdb0585b81c2a627a22ac10d34d4e014bad8dca5d67bc542e6", func := "loop.example/stopgate/laws.FnExprMorgan", spec := "fnExprMorgan", unfollowed := true, recurses := true, apart := false, narrowed := true }
def FnExprMorganUptoSaid : Prop := fnExprMorganUptoRow.holds Try.pinned (OpenSpec.upto fnExprMorganSpec)

/-- 'laws.FnExprOn', WHERE WHAT IT READS IS OF BULK AT MOST 1048576: true; the input reads as it did. -/
def fnExprOnUptoRow : OpenClaim := { program := "ytiofkhfmdophpaa", sum := "0fff607c85e623fdb0585b81c2a627a22ac10d34d4e014bad8dca5d67bc542e6", func := "loop.example/stopgate/laws.FnExprOn", spec := "fnExprOn", unfollowed := true, recurses := true, apart := false, narrowed := true }
def FnExprOnUptoSaid : Prop := fnExprOnUptoRow.holds Try.pinned (OpenSpec.upto fnExprOnSpec)

/-- 'laws.FnExprOf', WHERE WHAT IT READS IS OF BULK AT MOST 1048576: true; the input reads as it did. -/
def fnExprOfUptoRow : OpenClaim := { program := "ytiofkhfmdophpaa", sum := "0fff607c85e623fdb0585b81c2a627a22ac10d34d4e014bad8dca5d67bc542e6", func := "loop.example/stopgate/laws.FnExprOf", spec := "fnExprOf", unfollowed := true, recurses := true, apart := false, narrowed := true }
def FnExprOfUptoSaid : Prop := fnExprOfUptoRow.holds Try.pinned (OpenSpec.upto fnExprOfSpec)

/-- 'laws.FnExprMany', WHERE WHAT IT READS IS OF BULK AT MOST 1048576: true; the input reads as it did. -/
def fnExprManyUptoRow : OpenClaim := { program := "ytiofkhfmdophpaa", sum := "0fff607c85e623fdb0585b81c2a627a22ac10d34d4e014bad8dca5d67bc542e6", func := "loop.example/stopgate/laws.FnExprMany", spec := "fnExprMany", unfollowed := true, recurses := true, apart := false, narrowed := true }
def FnExprManyUptoSaid : Prop := fnExprManyUptoRow.holds Try.pinned (OpenSpec.upto fnExprManySpec)

/-- 'laws.FnExprBent', WHERE WHAT IT READS IS OF BULK AT MOST 1048576: true; the input reads as it did. -/
def fnExprBentUptoRow : OpenClaim := { program := "ytiofkhfmdophpaa", sum := "0fff607c85e623fdb0585b81c2a627a22ac10d34d4e014bad8dca5d67bc542e6", func := "loop.example/stopgate/laws.FnExprBent", spec := "fnExprBent", inPlace := ["internal/abi.NoEscape", "internal/bytealg.MakeNoZero"], unfollowed := true, recurses := true, apart := false, narrowed := true }
def FnExprBentUptoSaid : Prop := fnExprBentUptoRow.holds Try.pinned (OpenSpec.upto fnExprBentSpec)

end Rows
end Go.Proofs.Ytiofkhfmdophpaa
