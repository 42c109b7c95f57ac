/- impl.CodeOf, in the print's form. -/
import Derived.Test.YtddnijmgipffeaaCodeOf
namespace Go.Proofs.Ytddnijmgipffeaa.B
open Go.RowKit Go.Shelf Go.Proofs.YtddnijmgipffeaaW.PrintWords Go.Proofs.YtddnijmgipffeaaW.PrintLast Go.Proofs.YtddnijmgipffeaaW.PrintMore
set_option linter.unusedVariables false

def impl_CodeOf.f (l0 : List S69) : Option (List S39) := some (codeR l0)
theorem impl_CodeOf.calls (A0 : Option Addr) (c0 : Nat) (l0 : List S69) (r : List S39) (w : World) (hr0 : Kd.C k69 w A0 l0.length l0) (hc0 : l0.length ≤ c0) (h : impl_CodeOf.f l0 = some r) :
  Calls Try.prog 11 #[.slice A0 l0.length c0] w fun e w' => ∃ v0_ : Value, e = .returned v0_ ∧ Kd.R k39 39 w' w.heap.size (fun _ => True) v0_ r ∧ Below w.heap.size w w' := by
 obtain rfl := Option.some.inj h
 refine (codeOf_any l0 A0 c0 w hr0 hc0).mono ?_
 rintro e w' ⟨U, y, rfl, h1, h2⟩
 exact ⟨_, rfl, h1, h2⟩
end Go.Proofs.Ytddnijmgipffeaa.B
