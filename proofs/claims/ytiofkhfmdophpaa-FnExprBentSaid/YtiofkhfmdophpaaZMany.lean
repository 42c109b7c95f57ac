/- impl.ExprMany of what is not ok, in the print's form. -/
import Derived.Test.YtiofkhfmdophpaaZOk
namespace Go.Proofs.Ytiofkhfmdophpaa.B
open Go.RowKit Go.Shelf Go.Proofs.YtiofkhfmdophpaaW.PrintWords Go.Proofs.YtiofkhfmdophpaaW.PrintLast Go.Proofs.YtiofkhfmdophpaaW.PrintMore
set_option linter.unusedVariables false
def impl_ExprMany.f (a0_0 : Int) (a0_1 : Int) (a0_2 : Int) (a0_3 : Int) (l0_4 : List (S32)) : Option Int :=
 if (formS 6 ⟨a0_0, a0_1, ⟨a0_2, a0_3⟩, l0_4⟩ && decide (manyS 6 ⟨a0_0, a0_1, ⟨a0_2, a0_3⟩, l0_4⟩ ≤ 14)) = true then none else some 0
set_option maxRecDepth 100000 in
set_option maxHeartbeats 4000000 in
theorem impl_ExprMany.calls (a0_0 : Int) (a0_1 : Int) (a0_2 : Int) (a0_3 : Int) (A0_4 : Option Addr) (c0_4 : Nat) (l0_4 : List (S32)) (r : Int) (w : World) (hr0_4 : Kd.C k32 w A0_4 l0_4.length l0_4) (hc0_4 : l0_4.length ≤ c0_4) (h : impl_ExprMany.f a0_0 a0_1 a0_2 a0_3 l0_4 = some r) :
  Calls Try.prog 29 #[.agg #[.int .i64 a0_0, .int .i64 a0_1, .int .i64 a0_2, .int .i64 a0_3, .slice A0_4 l0_4.length c0_4]] w fun e w' => e = .returned (.int .i64 r) ∧ Below w.heap.size w w' := by
 unfold impl_ExprMany.f at h
 cases ho : (formS 6 (⟨a0_0, a0_1, ⟨a0_2, a0_3⟩, l0_4⟩ : S32) && decide (manyS 6 (⟨a0_0, a0_1, ⟨a0_2, a0_3⟩, l0_4⟩ : S32) ≤ 14)) with
 | true => rw [if_pos ho] at h; cases h
 | false =>
  rw [if_neg (by rw [ho]; simp)] at h
  obtain rfl := Option.some.inj h
  have HC := Aside0.mk (impl_ExprOk.calls a0_0 a0_1 a0_2 a0_3 A0_4 c0_4 l0_4 false (w.alloc (.cells #[.int .i64 a0_0, .int .i64 a0_1, .int .i64 a0_2, .int .i64 a0_3, .slice A0_4 l0_4.length c0_4] 32)) (Kd.C_below hr0_4 ((Below.refl _ _).alloc (Nat.le_refl _) _)) hc0_4 (by rw [impl_ExprOk.f, ho]))
  have HB := Aside0.mk ((Below.refl w.heap.size w).alloc (Nat.le_refl _) (.cells #[.int .i64 a0_0, .int .i64 a0_1, .int .i64 a0_2, .int .i64 a0_3, .slice A0_4 l0_4.length c0_4] 32))
  clear hr0_4 hc0_4 ho h
  go_enter Try.func29, Try.ntmps29
  go_wp2_with fail
  refine HC.out.mono ?_
  clear HC
  rintro e w1 ⟨rfl, hb1⟩
  have HB1 := Aside0.mk (HB.out.trans (hb1.mono HB.out.size))
  clear hb1
  go_wp2
  go_ret
  exact ⟨rfl, HB1.out⟩
end Go.Proofs.Ytiofkhfmdophpaa.B
