/-
  NARROWER THAN 'FOR EVERY INPUT', by the rows' own cells (each row's printed sentence says how): FnExactCodeOf: loops.
  DERIVED. THE GIVEN ROWS OF THIS SEAT. 5 by the template 'for every input the law returns true; each argument reads behind the call as it read before'; 0 by the template 'total and deterministic' (their statements: YtddnijmgipffeaaTotals.lean).
  GIVEN WITH THE SEED: the statements are not yours to turn. If you find one false, say at which input.
  Laid BY PROGRAM, IN A SANDBOX (cutbox-rows.mjs): the forced cells as the released guide's own fill.sh prints them over the translation fbfdce7e823f9b6d… (all of the seat's roots in one cut). By AI agents, Wed Nov 11 2026. No macro, syntax, notation, axiom, sorry.
-/
import Derived.Test.YtddnijmgipffeaaChecked
import GoSem.Claim
import GoSem.ClaimJoined
import GoSem.ClaimMapViews
import Derived.JoinedTies
import Derived.KernelRfl
namespace Go.Proofs.Ytddnijmgipffeaa
/- THE CELL 'sum', in the pinned program and in every row, IS THE sha256 OF THE DUMP (.gsa) THAT YtddnijmgipffeaaProg.lean LOADS. Nothing in Lean hashes anything: it is a label: what it is worth is what the hold of that sum in a sandbox is worth. -/
noncomputable def Try.pinned : Pinned := { name := "ytddnijmgipffeaa", sum := "fbfdce7e823f9b6dc2700caa5c34d4455059b88021e7a4f71cf1b8b80b757243", checked := Try.checked }
namespace Rows
def none {H : Type} : Left H := { results := [], args := [] }

/-- 'laws.FnExactCodeOf': WHATEVER THE INPUT: true; the input reads as it did. -/
def fnExactCodeOfSpec : ChangeSpec := { name := "fnExactCodeOf", fn := fun _ => fun
  | [d] => { results := [.lit (.bool true)], args := [d] }
  | _ => none }
def fnExactCodeOfRow : OpenClaim := { program := "ytddnijmgipffeaa", sum := "fbfdce7e823f9b6dc2700caa5c34d4455059b88021e7a4f71cf1b8b80b757243", func := "loop.example/stopgate/laws.FnExactCodeOf", spec := "fnExactCodeOf", unfollowed := true, recurses := true, loops := true, apart := false }
def FnExactCodeOfSaid : Prop := fnExactCodeOfRow.holds Try.pinned (OpenSpec.ofChange fnExactCodeOfSpec)

/-- ITS FALSE NEIGHBOUR: 'it returns false'. Refute it at one input. -/
def fnExactCodeOfWrong : ChangeSpec := { name := "fnExactCodeOf", fn := fun _ => fun
  | [d] => { results := [.lit (.bool false)], args := [d] }
  | _ => none }
def FnExactCodeOfWrongFalsely : Prop := fnExactCodeOfRow.holds Try.pinned (OpenSpec.ofChange fnExactCodeOfWrong)

/-- 'laws.FnCodeCat': WHATEVER THE INPUT: true; the input reads as it did. -/
def fnCodeCatSpec : ChangeSpec := { name := "fnCodeCat", fn := fun _ => fun
  | [d1, d2] => { results := [.lit (.bool true)], args := [d1, d2] }
  | _ => none }
def fnCodeCatRow : OpenClaim := { program := "ytddnijmgipffeaa", sum := "fbfdce7e823f9b6dc2700caa5c34d4455059b88021e7a4f71cf1b8b80b757243", func := "loop.example/stopgate/laws.FnCodeCat", spec := "fnCodeCat", unfollowed := true, recurses := true, apart := false }
def FnCodeCatSaid : Prop := fnCodeCatRow.holds Try.pinned (OpenSpec.ofChange fnCodeCatSpec)

/-- ITS FALSE NEIGHBOUR: 'it returns false'. Refute it at one input. -/
def fnCodeCatWrong : ChangeSpec := { name := "fnCodeCat", fn := fun _ => fun
  | [d1, d2] => { results := [.lit (.bool false)], args := [d1, d2] }
  | _ => none }
def FnCodeCatWrongFalsely : Prop := fnCodeCatRow.holds Try.pinned (OpenSpec.ofChange fnCodeCatWrong)

/-- 'laws.FnCodeBacks': WHATEVER THE INPUT: true; the input reads as it did. -/
def fnCodeBacksSpec : ChangeSpec := { name := "fnCodeBacks", fn := fun _ => fun
  | [d] => { results := [.lit (.bool true)], args := [d] }
  | _ => none }
def fnCodeBacksRow : OpenClaim := { program := "ytddnijmgipffeaa", sum := "fbfdce7e823f9b6dc2700caa5c34d4455059b88021e7a4f71cf1b8b80b757243", func := "loop.example/stopgate/laws.FnCodeBacks", spec := "fnCodeBacks", unfollowed := true, recurses := true, apart := false }
def FnCodeBacksSaid : Prop := fnCodeBacksRow.holds Try.pinned (OpenSpec.ofChange fnCodeBacksSpec)

/-- ITS FALSE NEIGHBOUR: 'it returns false'. Refute it at one input. -/
def fnCodeBacksWrong : ChangeSpec := { name := "fnCodeBacks", fn := fun _ => fun
  | [d] => { results := [.lit (.bool false)], args := [d] }
  | _ => none }
def FnCodeBacksWrongFalsely : Prop := fnCodeBacksRow.holds Try.pinned (OpenSpec.ofChange fnCodeBacksWrong)

/-- 'laws.FnExprAlike': WHATEVER THE INPUT: true; the input reads as it did. -/
def fnExprAlikeSpec : ChangeSpec := { name := "fnExprAlike", fn := fun _ => fun
  | [d1, d2] => { results := [.lit (.bool true)], args := [d1, d2] }
  | _ => none }
def fnExprAlikeRow : OpenClaim := { program := "ytddnijmgipffeaa", sum := "fbfdce7e823f9b6dc2700caa5c34d4455059b88021e7a4f71cf1b8b80b757243", func := "loop.example/stopgate/laws.FnExprAlike", spec := "fnExprAlike", inPlace := ["internal/abi.NoEscape", "internal/bytealg.MakeNoZero"], unfollowed := true, recurses := true, apart := false }
def FnExprAlikeSaid : Prop := fnExprAlikeRow.holds Try.pinned (OpenSpec.ofChange fnExprAlikeSpec)

/-- ITS FALSE NEIGHBOUR: 'it returns false'. Refute it at one input. -/
def fnExprAlikeWrong : ChangeSpec := { name := "fnExprAlike", fn := fun _ => fun
  | [d1, d2] => { results := [.lit (.bool false)], args := [d1, d2] }
  | _ => none }
def FnExprAlikeWrongFalsely : Prop := fnExprAlikeRow.holds Try.pinned (OpenSpec.ofChange fnExprAlikeWrong)

/-- 'laws.FnSlimNum': WHATEVER THE INPUT: true; the input reads as it did. -/
def fnSlimNumSpec : ChangeSpec := { name := "fnSlimNum", fn := fun _ => fun
  | [d] => { results := [.lit (.bool true)], args := [d] }
  | _ => none }
def fnSlimNumRow : OpenClaim := { program := "ytddnijmgipffeaa", sum := "fbfdce7e823f9b6dc2700caa5c34d4455059b88021e7a4f71cf1b8b80b757243", func := "loop.example/stopgate/laws.FnSlimNum", spec := "fnSlimNum", unfollowed := true, recurses := true, apart := false }
def FnSlimNumSaid : Prop := fnSlimNumRow.holds Try.pinned (OpenSpec.ofChange fnSlimNumSpec)

/-- ITS FALSE NEIGHBOUR: 'it returns false'. Refute it at one input. -/
def fnSlimNumWrong : ChangeSpec := { name := "fnSlimNum", fn := fun _ => fun
  | [d] => { results := [.lit (.bool false)], args := [d] }
  | _ => none }
def FnSlimNumWrongFalsely : Prop := fnSlimNumRow.holds Try.pinned (OpenSpec.ofChange fnSlimNumWrong)

/- THE SECOND FORM. 'bulk': how many values and letters a reading holds, each counted each time it is reached (what is shared counts as often as it is met; a slice's spare places count too). A statement '..UptoSaid' is the law's where the arguments, and the package variables that the reading takes, are together of bulk at most 1048576: NARROWER than '..Said'. Prove '..Said' where nothing that the law and all that it calls make is longer than what came in: it says more and counts as full. Else prove '..UptoSaid'. A law counts once. -/
mutual
def uptoBulk {H : Type} : DataW H → Nat
  | .lit (.string bytes) => bytes.length + 1
  | .lit _ => 1
  | .nil => 1
  | .ptr d => uptoBulk d + 1
  | .slice elems spare => uptoBulkAll elems + uptoBulkAll spare + 1
  | .agg parts => uptoBulkAll parts + 1
  | .iface _ d => uptoBulk d + 1
  | .map entries => uptoBulkEntries entries + 1
  | .held _ => 1
def uptoBulkAll {H : Type} : List (DataW H) → Nat
  | [] => 0
  | d :: r => uptoBulk d + uptoBulkAll r
def uptoBulkEntries {H : Type} : List (Lit × DataW H) → Nat
  | [] => 0
  | x :: r => uptoBulkEntry x + uptoBulkEntries r
def uptoBulkEntry {H : Type} : Lit × DataW H → Nat
  | (.string bytes, d) => bytes.length + uptoBulk d + 1
  | (_, d) => uptoBulk d + 1
 end
def uptoSmall : (H : Type) → List (DataW H) → Bool := fun _ ds => decide (uptoBulkAll ds ≤ 1048576)
def OpenSpec.upto (s : _root_.Go.ChangeSpec) : _root_.Go.OpenSpec := { _root_.Go.OpenSpec.ofChange s with cond := some uptoSmall }

/-- 'laws.FnExactCodeOf', WHERE WHAT IT READS IS OF BULK AT MOST 1048576: true; the input reads as it did. -/
def fnExactCodeOfUptoRow : OpenClaim := { program := "ytddnijmgipffeaa", sum := "fbfdce7e823f9b6dc2700caa5c34d4455059b88021e7a4f71cf1b8b80b757243", func := "loop.example/stopgate/laws.FnExactCodeOf", spec := "fnExactCodeOf", unfollowed := true, recurses := true, loops := true, apart := false, narrowed := true }
def FnExactCodeOfUptoSaid : Prop := fnExactCodeOfUptoRow.holds Try.pinned (OpenSpec.upto fnExactCodeOfSpec)

/-- 'laws.FnCodeCat', WHERE WHAT IT READS IS OF BULK AT MOST 1048576: true; the input reads as it did. -/
def fnCodeCatUptoRow : OpenClaim := { program := "ytddnijmgipffeaa", sum := "fbfdce7e823f9b6dc2700caa5c34d4455059b88021e7a4f71cf1b8b80b757243", func := "loop.example/stopgate/laws.FnCodeCat", spec := "fnCodeCat", unfollowed := true, recurses := true, apart := false, narrowed := true }
def FnCodeCatUptoSaid : Prop := fnCodeCatUptoRow.holds Try.pinned (OpenSpec.upto fnCodeCatSpec)

/-- 'laws.FnCodeBacks', WHERE WHAT IT READS IS OF BULK AT MOST 1048576: true; the input reads as it did. -/
def fnCodeBacksUptoRow : OpenClaim := { program := "ytddnijmgipffeaa", sum := "fbfdce7e823f9b6dc2700caa5c34d4455059b88021e7a4f71cf1b8b80b757243", func := "loop.example/stopgate/laws.FnCodeBacks", spec := "fnCodeBacks", unfollowed := true, recurses := true, apart := false, narrowed := true }
def FnCodeBacksUptoSaid : Prop := fnCodeBacksUptoRow.holds Try.pinned (OpenSpec.upto fnCodeBacksSpec)

/-- 'laws.FnExprAlike', WHERE WHAT IT READS IS OF BULK AT MOST 1048576: true; the input reads as it did. -/
def fnExprAlikeUptoRow : OpenClaim := { program := "ytddnijmgipffeaa", sum := "fbfdce7e823f9b6dc2700caa5c34d4455059b88021e7a4f71cf1b8b80b757243", func := "loop.example/stopgate/laws.FnExprAlike", spec := "fnExprAlike", inPlace := ["internal/abi.NoEscape", "internal/bytealg.MakeNoZero"], unfollowed := true, recurses := true, apart := false, narrowed := true }
def FnExprAlikeUptoSaid : Prop := fnExprAlikeUptoRow.holds Try.pinned (OpenSpec.upto fnExprAlikeSpec)

/-- 'laws.FnSlimNum', WHERE WHAT IT READS IS OF BULK AT MOST 1048576: true; the input reads as it did. -/
def fnSlimNumUptoRow : OpenClaim := { program := "ytddnijmgipffeaa", sum := "fbfdce7e823f9b6dc2700caa5c34d4455059b88021e7a4f71cf1b8b80b757243", func := "loop.example/stopgate/laws.FnSlimNum", spec := "fnSlimNum", unfollowed := true, recurses := true, apart := false, narrowed := true }
def FnSlimNumUptoSaid : Prop := fnSlimNumUptoRow.holds Try.pinned (OpenSpec.upto fnSlimNumSpec)

end Rows
end Go.Proofs.Ytddnijmgipffeaa
