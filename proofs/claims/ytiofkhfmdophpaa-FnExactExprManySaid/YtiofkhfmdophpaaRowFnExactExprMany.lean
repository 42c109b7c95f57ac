/- 'FnExactExprMany' holds: whatever the input, the law returns true, and its arguments read as before. -/
import Derived.Test.YtiofkhfmdophpaaRows
import Derived.Test.YtiofkhfmdophpaaTabW
import Derived.Test.YtiofkhfmdophpaaLawMany
import Derived.Test.YtiofkhfmdophpaaLawOk2
import Derived.Test.YtiofkhfmdophpaaOpens
import Derived.WalkKit
import Derived.ProofKit
import Derived.OpenShut
import Derived.ChangeOld
import Derived.Below
import Derived.SizedLaws
import Derived.HandedShaped
namespace Go.Proofs.Ytiofkhfmdophpaa.fnExactExprMany
open Go.ChangeShapes Go.WideShapes Go.ChangeAt Go.RowKit
set_option linter.unusedVariables false
theorem own : ownKnob Try.prog.godebug = none := by kernel_rfl
theorem laidOut : laidOutB Try.prog = true := by kernel_rfl
set_option maxRecDepth 100000 in
theorem lifted (os : Os) (started : os.Started) (H : Type) (enc : TypeId × Value → H) :
  ReturnsInHanded {} Try.checked os 6 .any (Rows.fnExactExprManySpec.pre6 enc Try.prog Try.f6 Rows.fnExactExprManyRow.domain false) (Rows.fnExactExprManySpec.post enc Try.prog Try.f6 false true false false) := by
 refine returnsInHanded_of_change_shaped (C := Try.checked) own started (by kernel_rfl) Try.func6
  (ChangeSpec.witness6 (enc := enc) (C := Try.checked) false ⟨#[], #[.agg #[.int .i64 0, .int .i64 0, .int .i64 0, .int .i64 0, .slice none 0 0]], []⟩ 8 (by kernel_rfl) (by kernel_rfl) (by kernel_rfl) (by kernel_rfl)) ?_
 intro W base args ds gs before hval0 hW hcnd hsz0 hshp _
 have hval : ∀ (j : Nat) t v, Try.f6.params[j]? = some t → args[j]? = some v → Value.okWide Try.prog W .any base t v := hval0
 have hW' := hW
 obtain ⟨p, q, hA0, hV, rfl, hfz, hnd⟩ := hW
 have hA : DataW.TrodAll enc Try.prog W 0 (fun _ => true) true Try.f6.params.toList args.toList ds p := hA0
 rw [Try.params6] at hA hval
 obtain ⟨v0, vs0, d0, ds0, p0, q0, hargs, rfl, rfl, h0, r0⟩ := trodAll_cons hA
 obtain ⟨rfl, rfl, rfl⟩ := trodAll_nil r0
 obtain rfl : args = #[v0] := by cases args; simp_all
 obtain ⟨rfl, rfl⟩ := trodVars_none hV
 obtain ⟨c0, rfl, hs0⟩ := okWide_struct Try.underlying26 (hval 0 26 v0 rfl rfl)
 have k0 := h0
 have lt0 : ∀ x ∈ p0, x.block < W.heap.size := by obtain ⟨m, hm⟩ := k0; exact DataW.trod_lt m _ _ _ hm
 obtain ⟨x0, hx0⟩ : ∃ x, B.k26.K W x c0.toList := by
  obtain ⟨fuel, hf⟩ := h0
  exact (B.opens_lExpr enc W fuel).2 fuel _ _ (Nat.le_refl _) (by simpa [Value.cells] using hf)
 obtain ⟨A0_0, m0_0, hc0, l0_0, g0_0⟩ := B.k26_open hx0
 obtain ⟨y0, hy0⟩ : ∃ y : Array Value, y = c0 := ⟨_, rfl⟩
 obtain ⟨z0⟩ := c0
 simp only at hc0
 subst hc0
 clear hA0 hval0 hsz0
 refine (B.fnExactExprMany_law B.okCon x0 A0_0 m0_0 W g0_0 l0_0 (B.TabW.of_shape hshp)).mono fun e W' ⟨he, bel⟩ => ?_
 subst he
 exact ⟨_, rfl, _, _, _, [], _, [], hW', trodAll_mk1 (shut_bool Try.underlying4 _), (trodAll_cons_mk (Below.trod laidOut (by kernel_rfl) (of_decide_eq_true (by kernel_rfl)) k0 bel lt0) trodAll_mk0), rfl, bel.frame _, fun h => by cases h⟩
theorem over : Rows.fnExactExprManyRow.holds Try.pinned (OpenSpec.ofChange Rows.fnExactExprManySpec) :=
 OpenClaim.holds_of_wide 6 Try.f6 rfl rfl rfl rfl rfl rfl rfl ⟨rfl, rfl, rfl, rfl, rfl⟩ rfl rfl rfl rfl rfl (by kernel_rfl) Try.func6 (by kernel_rfl)
  (of_decide_eq_true (by kernel_rfl)) (by unfold Func.isWrapper; first | (rw [if_pos (by decide +kernel)]; kernel_rfl) | (rw [if_neg (by decide +kernel)]; exact ⟨rfl, rfl⟩))
  (fun os started H enc _ => lifted os started H enc)
theorem proved : Rows.FnExactExprManySaid := over
#print axioms proved
end Go.Proofs.Ytiofkhfmdophpaa.fnExactExprMany
namespace Go.Proofs.Ytiofkhfmdophpaa
/-- The row, under a short name, for the claim. -/
theorem fnExactExprMany_holds : Rows.FnExactExprManySaid := fnExactExprMany.proved
end Go.Proofs.Ytiofkhfmdophpaa
