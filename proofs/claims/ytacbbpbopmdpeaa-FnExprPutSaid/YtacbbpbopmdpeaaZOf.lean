/- impl.ExprOf, in the print's form. -/
import Derived.Test.YtacbbpbopmdpeaaExprOf
import Derived.Test.YtacbbpbopmdpeaaLawOk2
namespace Go.Proofs.Ytacbbpbopmdpeaa.B
open Go.RowKit Go.Proofs.YtacbbpbopmdpeaaW.PrintWords Go.Proofs.YtacbbpbopmdpeaaW.PrintLast Go.Proofs.YtacbbpbopmdpeaaW.PrintMore
set_option linter.unusedVariables false

def impl_ExprOf.f (a0_0 : Int) (a0_1 : Int) (a0_2 : Int) (a0_3 : Int) (l0_4 : List (S27)) (l1_0 : List Int) (l1_1 : List Int) (l1_2 : List Int) : Option Int :=
 some (ofV ⟨a0_0, a0_1, ⟨a0_2, a0_3⟩, l0_4⟩ l1_0 l1_1 l1_2)
theorem impl_ExprOf.calls (a0_0 : Int) (a0_1 : Int) (a0_2 : Int) (a0_3 : Int) (A0_4 : Option Addr) (c0_4 : Nat) (l0_4 : List (S27)) (A1_0 : Option Addr) (c1_0 : Nat) (l1_0 : List Int) (A1_1 : Option Addr) (c1_1 : Nat) (l1_1 : List Int) (A1_2 : Option Addr) (c1_2 : Nat) (l1_2 : List Int) (r : Int) (w : World)
  (hr0_4 : Kd.C k27 w A0_4 l0_4.length l0_4) (hc0_4 : l0_4.length ≤ c0_4) (hr1_0 : Kd.C (Kd.int .i64) w A1_0 l1_0.length l1_0) (hc1_0 : l1_0.length ≤ c1_0) (hr1_1 : Kd.C (Kd.int .i64) w A1_1 l1_1.length l1_1) (hc1_1 : l1_1.length ≤ c1_1) (hr1_2 : Kd.C (Kd.int .i64) w A1_2 l1_2.length l1_2) (hc1_2 : l1_2.length ≤ c1_2)
  (h : impl_ExprOf.f a0_0 a0_1 a0_2 a0_3 l0_4 l1_0 l1_1 l1_2 = some r) :
  Calls Try.prog 6 #[.agg #[.int .i64 a0_0, .int .i64 a0_1, .int .i64 a0_2, .int .i64 a0_3, .slice A0_4 l0_4.length c0_4], .agg #[.slice A1_0 l1_0.length c1_0, .slice A1_1 l1_1.length c1_1, .slice A1_2 l1_2.length c1_2]] w fun e w' => e = .returned (.int .i64 r) ∧ Below w.heap.size w w' := by
 obtain rfl := Option.some.inj h
 exact exprOf_any okCon ⟨a0_0, a0_1, ⟨a0_2, a0_3⟩, l0_4⟩ A0_4 c0_4 l1_0 l1_1 l1_2 A1_0 A1_1 A1_2 c1_0 c1_1 c1_2 w hr0_4 hc0_4 hr1_0 hr1_1 hr1_2 hc1_0 hc1_1 hc1_2
end Go.Proofs.Ytacbbpbopmdpeaa.B
