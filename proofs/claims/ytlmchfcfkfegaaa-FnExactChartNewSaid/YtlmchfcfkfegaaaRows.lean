/-
  NARROWER THAN 'FOR EVERY INPUT', by the rows' own cells (each row's printed sentence says how): FnExactChartSame: loops · FnExactChartOk: loops · FnExactChartNew: loops · FnExactPlcSame: loops.
  DERIVED. THE GIVEN ROWS OF THIS SEAT. 5 by the template 'for every input the law returns true; each argument reads behind the call as it read before'; 0 by the template 'total and deterministic' (their statements: YtlmchfcfkfegaaaTotals.lean).
  GIVEN WITH THE SEED: the statements are not yours to turn. If you find one false, say at which input.
  Laid BY PROGRAM, IN A SANDBOX (cutbox-rows.mjs): the forced cells as the released guide's own fill.sh prints them over the translation 10627749271063dd… (all of the seat's roots in one cut). By AI agents, Wed Nov 11 2026. No macro, syntax, notation, axiom, sorry.
-/
import Derived.Test.YtlmchfcfkfegaaaChecked
import GoSem.Claim
import GoSem.ClaimJoined
import GoSem.ClaimMapViews
import Derived.JoinedTies
import Derived.KernelRfl
namespace Go.Proofs.Ytlmchfcfkfegaaa
/- THE CELL 'sum', in the pinned program and in every row, IS THE sha256 OF THE DUMP (.gsa) THAT YtlmchfcfkfegaaaProg.lean LOADS. Nothing in Lean hashes anything: it is a label: what it is worth is what the hold of that sum in a sandbox is worth. -/
noncomputable def Try.pinned : Pinned := { name := "ytlmchfcfkfegaaa", sum := "10627749271063dd7d7b9e7b810f9cb5bd7b1fd54cd12778f81d3fc1844db9e5", checked := Try.checked }
namespace Rows
def none {H : Type} : Left H := { results := [], args := [] }

/-- 'laws.FnExactChartSame': WHATEVER THE INPUT: true; the input reads as it did. -/
def fnExactChartSameSpec : ChangeSpec := { name := "fnExactChartSame", fn := fun _ => fun
  | [d1, d2] => { results := [.lit (.bool true)], args := [d1, d2] }
  | _ => none }
def fnExactChartSameRow : OpenClaim := { program := "ytlmchfcfkfegaaa", sum := "10627749271063dd7d7b9e7b810f9cb5bd7b1fd54cd12778f81d3fc1844db9e5", func := "loop.example/stopgate/laws.FnExactChartSame", spec := "fnExactChartSame", unfollowed := true, recurses := true, loops := true, apart := false }
def FnExactChartSameSaid : Prop := fnExactChartSameRow.holds Try.pinned (OpenSpec.ofChange fnExactChartSameSpec)

/-- ITS FALSE NEIGHBOUR: 'it returns false'. Refute it at one input. -/
def fnExactChartSameWrong : ChangeSpec := { name := "fnExactChartSame", fn := fun _ => fun
  | [d1, d2] => { results := [.lit (.bool false)], args := [d1, d2] }
  | _ => none }
def FnExactChartSameWrongFalsely : Prop := fnExactChartSameRow.holds Try.pinned (OpenSpec.ofChange fnExactChartSameWrong)

/-- 'laws.FnExactChartOk': WHATEVER THE INPUT: true; the input reads as it did. -/
def fnExactChartOkSpec : ChangeSpec := { name := "fnExactChartOk", fn := fun _ => fun
  | [d] => { results := [.lit (.bool true)], args := [d] }
  | _ => none }
def fnExactChartOkRow : OpenClaim := { program := "ytlmchfcfkfegaaa", sum := "10627749271063dd7d7b9e7b810f9cb5bd7b1fd54cd12778f81d3fc1844db9e5", func := "loop.example/stopgate/laws.FnExactChartOk", spec := "fnExactChartOk", unfollowed := true, recurses := true, loops := true, apart := false }
def FnExactChartOkSaid : Prop := fnExactChartOkRow.holds Try.pinned (OpenSpec.ofChange fnExactChartOkSpec)

/-- ITS FALSE NEIGHBOUR: 'it returns false'. Refute it at one input. -/
def fnExactChartOkWrong : ChangeSpec := { name := "fnExactChartOk", fn := fun _ => fun
  | [d] => { results := [.lit (.bool false)], args := [d] }
  | _ => none }
def FnExactChartOkWrongFalsely : Prop := fnExactChartOkRow.holds Try.pinned (OpenSpec.ofChange fnExactChartOkWrong)

/-- 'laws.FnExactChartNew': WHATEVER THE INPUT: true; the input reads as it did. -/
def fnExactChartNewSpec : ChangeSpec := { name := "fnExactChartNew", fn := fun _ => fun
  | [d] => { results := [.lit (.bool true)], args := [d] }
  | _ => none }
def fnExactChartNewRow : OpenClaim := { program := "ytlmchfcfkfegaaa", sum := "10627749271063dd7d7b9e7b810f9cb5bd7b1fd54cd12778f81d3fc1844db9e5", func := "loop.example/stopgate/laws.FnExactChartNew", spec := "fnExactChartNew", unfollowed := true, recurses := true, loops := true, apart := false }
def FnExactChartNewSaid : Prop := fnExactChartNewRow.holds Try.pinned (OpenSpec.ofChange fnExactChartNewSpec)

/-- ITS FALSE NEIGHBOUR: 'it returns false'. Refute it at one input. -/
def fnExactChartNewWrong : ChangeSpec := { name := "fnExactChartNew", fn := fun _ => fun
  | [d] => { results := [.lit (.bool false)], args := [d] }
  | _ => none }
def FnExactChartNewWrongFalsely : Prop := fnExactChartNewRow.holds Try.pinned (OpenSpec.ofChange fnExactChartNewWrong)

/-- 'laws.FnChartOne': WHATEVER THE INPUT: true; the input reads as it did. -/
def fnChartOneSpec : ChangeSpec := { name := "fnChartOne", fn := fun _ => fun
  | [d1, d2] => { results := [.lit (.bool true)], args := [d1, d2] }
  | _ => none }
def fnChartOneRow : OpenClaim := { program := "ytlmchfcfkfegaaa", sum := "10627749271063dd7d7b9e7b810f9cb5bd7b1fd54cd12778f81d3fc1844db9e5", func := "loop.example/stopgate/laws.FnChartOne", spec := "fnChartOne", unfollowed := true, recurses := true, apart := false }
def FnChartOneSaid : Prop := fnChartOneRow.holds Try.pinned (OpenSpec.ofChange fnChartOneSpec)

/-- ITS FALSE NEIGHBOUR: 'it returns false'. Refute it at one input. -/
def fnChartOneWrong : ChangeSpec := { name := "fnChartOne", fn := fun _ => fun
  | [d1, d2] => { results := [.lit (.bool false)], args := [d1, d2] }
  | _ => none }
def FnChartOneWrongFalsely : Prop := fnChartOneRow.holds Try.pinned (OpenSpec.ofChange fnChartOneWrong)

/-- 'laws.FnExactPlcSame': WHATEVER THE INPUT: true; the input reads as it did. -/
def fnExactPlcSameSpec : ChangeSpec := { name := "fnExactPlcSame", fn := fun _ => fun
  | [d1, d2] => { results := [.lit (.bool true)], args := [d1, d2] }
  | _ => none }
def fnExactPlcSameRow : OpenClaim := { program := "ytlmchfcfkfegaaa", sum := "10627749271063dd7d7b9e7b810f9cb5bd7b1fd54cd12778f81d3fc1844db9e5", func := "loop.example/stopgate/laws.FnExactPlcSame", spec := "fnExactPlcSame", unfollowed := true, recurses := true, loops := true, apart := false }
def FnExactPlcSameSaid : Prop := fnExactPlcSameRow.holds Try.pinned (OpenSpec.ofChange fnExactPlcSameSpec)

/-- ITS FALSE NEIGHBOUR: 'it returns false'. Refute it at one input. -/
def fnExactPlcSameWrong : ChangeSpec := { name := "fnExactPlcSame", fn := fun _ => fun
  | [d1, d2] => { results := [.lit (.bool false)], args := [d1, d2] }
  | _ => none }
def FnExactPlcSameWrongFalsely : Prop := fnExactPlcSameRow.holds Try.pinned (OpenSpec.ofChange fnExactPlcSameWrong)

/- THE SECOND FORM. 'bulk': how many values and letters a reading holds, each counted each time it is reached (what is shared counts as often as it is met; a slice's spare places count too). A statement '..UptoSaid' is the law's where the arguments, and the package variables that the reading takes, are together of bulk at most 1048576: NARROWER than '..Said'. Prove '..Said' where nothing that the law and all that it calls make is longer than what came in: it says more and counts as full. Else prove '..UptoSaid'. A law counts once. -/
mutual
def uptoBulk {H : Type} : DataW H → Nat
  | .lit (.string bytes) => bytes.length + 1
  | .lit _ => 1
  | .nil => 1
  | .ptr d => uptoBulk d + 1
  | .slice elems spare => uptoBulkAll elems + uptoBulkAll spare + 1
  | .agg parts => uptoBulkAll parts + 1
  | .iface _ d => uptoBulk d + 1
  | .map entries => uptoBulkEntries entries + 1
  | .held _ => 1
def uptoBulkAll {H : Type} : List (DataW H) → Nat
  | [] => 0
  | d :: r => uptoBulk d + uptoBulkAll r
def uptoBulkEntries {H : Type} : List (Lit × DataW H) → Nat
  | [] => 0
  | x :: r => uptoBulkEntry x + uptoBulkEntries r
def uptoBulkEntry {H : Type} : Lit × DataW H → Nat
  | (.string bytes, d) => bytes.length + uptoBulk d + 1
  | (_, d) => uptoBulk d + 1
 end
def uptoSmall : (H : Type) → List (DataW H) → Bool := fun _ ds => decide (uptoBulkAll ds ≤ 1048576)
def OpenSpec.upto (s : _root_.Go.ChangeSpec) : _root_.Go.OpenSpec := { _root_.Go.OpenSpec.ofChange s with cond := some uptoSmall }

/-- 'laws.FnExactChartSame', WHERE WHAT IT READS IS OF BULK AT MOST 1048576: true; the input reads as it did. -/
def fnExactChartSameUptoRow : OpenClaim := { program := "ytlmchfcfkfegaaa", sum := "10627749271063dd7d7b9e7b810f9cb5bd7b1fd54cd12778f81d3fc1844db9e5", func := "loop.example/stopgate/laws.FnExactChartSame", spec := "fnExactChartSame", unfollowed := true, recurses := true, loops := true, apart := false, narrowed := true }
def FnExactChartSameUptoSaid : Prop := fnExactChartSameUptoRow.holds Try.pinned (OpenSpec.upto fnExactChartSameSpec)

/-- 'laws.FnExactChartOk', WHERE WHAT IT READS IS OF BULK AT MOST 1048576: true; the input reads as it did. -/
def fnExactChartOkUptoRow : OpenClaim := { program := "ytlmchfcfkfegaaa", sum := "10627749271063dd7d7b9e7b810f9cb5bd7b1fd54cd12778f81d3fc1844db9e5", func := "loop.example/stopgate/laws.FnExactChartOk", spec := "fnExactChartOk", unfollowed := true, recurses := true, loops := true, apart := false, narrowed := true }
def FnExactChartOkUptoSaid : Prop := fnExactChartOkUptoRow.holds Try.pinned (OpenSpec.upto fnExactChartOkSpec)

/-- 'laws.FnExactChartNew', WHERE WHAT IT READS IS OF BULK AT MOST 1048576: true; the input reads as it did. -/
def fnExactChartNewUptoRow : OpenClaim := { program := "ytlmchfcfkfegaaa", sum := "10627749271063dd7d7b9e7b810f9cb5bd7b1fd54cd12778f81d3fc1844db9e5", func := "loop.example/stopgate/laws.FnExactChartNew", spec := "fnExactChartNew", unfollowed := true, recurses := true, loops := true, apart := false, narrowed := true }
def FnExactChartNewUptoSaid : Prop := fnExactChartNewUptoRow.holds Try.pinned (OpenSpec.upto fnExactChartNewSpec)

/-- 'laws.FnChartOne', WHERE WHAT IT READS IS OF BULK AT MOST 1048576: true; the input reads as it did. -/
def fnChartOneUptoRow : OpenClaim := { program := "ytlmchfcfkfegaaa", sum := "10627749271063dd7d7b9e7b810f9cb5bd7b1fd54cd12778f81d3fc1844db9e5", func := "loop.example/stopgate/laws.FnChartOne", spec := "fnChartOne", unfollowed := true, recurses := true, apart := false, narrowed := true }
def FnChartOneUptoSaid : Prop := fnChartOneUptoRow.holds Try.pinned (OpenSpec.upto fnChartOneSpec)

/-- 'laws.FnExactPlcSame', WHERE WHAT IT READS IS OF BULK AT MOST 1048576: true; the input reads as it did. -/
def fnExactPlcSameUptoRow : OpenClaim := { program := "ytlmchfcfkfegaaa", sum := "10627749271063dd7d7b9e7b810f9cb5bd7b1fd54cd12778f81d3fc1844db9e5", func := "loop.example/stopgate/laws.FnExactPlcSame", spec := "fnExactPlcSame", unfollowed := true, recurses := true, loops := true, apart := false, narrowed := true }
def FnExactPlcSameUptoSaid : Prop := fnExactPlcSameUptoRow.holds Try.pinned (OpenSpec.upto fnExactPlcSameSpec)

end Rows
end Go.Proofs.Ytlmchfcfkfegaaa
