/- 'FnExactSlimWrites' holds: whatever the input, the law returns true, and its arguments read as before. -/
import Derived.Test.YtfikglnnkbldaaaRows
import Derived.Test.YtfikglnnkbldaaaPureWrAll
import Derived.Test.YtfikglnnkbldaaaOpens
import Derived.WalkKit
import Derived.ProofKit
import Derived.OpenShut
import Derived.ChangeOld
import Derived.Below
import Derived.SizedLaws
namespace Go.Proofs.Ytfikglnnkbldaaa.fnExactSlimWrites
open Go.ChangeShapes Go.WideShapes Go.ChangeAt Go.RowKit
set_option linter.unusedVariables false
theorem own : ownKnob Try.prog.godebug = none := by kernel_rfl
theorem laidOut : laidOutB Try.prog = true := by kernel_rfl
set_option maxRecDepth 100000 in
theorem lifted (os : Os) (started : os.Started) (H : Type) (enc : TypeId × Value → H) :
    ReturnsInHanded {} Try.checked os 5 .any (Rows.fnExactSlimWritesSpec.pre6 enc Try.prog Try.f5 Rows.fnExactSlimWritesRow.domain false) (Rows.fnExactSlimWritesSpec.post enc Try.prog Try.f5 false true false false) := by
  refine returnsInHanded_of_change_sized (C := Try.checked) own started (by kernel_rfl) Try.func5
    (ChangeSpec.witness6 (enc := enc) (C := Try.checked) false ⟨#[], #[.slice none 0 0, .agg #[.int .i64 0, .int .i64 0]], []⟩ 8 (by kernel_rfl) (by kernel_rfl) (by kernel_rfl) (by kernel_rfl)) ?_
  intro W base args ds gs before hval0 hW hcnd hsz0 _
  have hval : ∀ (j : Nat) t v, Try.f5.params[j]? = some t → args[j]? = some v → Value.okWide Try.prog W .any base t v := hval0
  have hW' := hW
  obtain ⟨p, q, hA0, hV, rfl, hfz, hnd⟩ := hW
  have hA : DataW.TrodAll enc Try.prog W 0 (fun _ => true) true Try.f5.params.toList args.toList ds p := hA0
  rw [Try.params5] at hA hval
  obtain ⟨v0, vs0, d0, ds0, p0, q0, hargs, rfl, rfl, h0, r0⟩ := trodAll_cons hA
  obtain ⟨v1, vs1, d1, ds1, p1, q1, rfl, rfl, rfl, h1, r1⟩ := trodAll_cons r0
  obtain ⟨rfl, rfl, rfl⟩ := trodAll_nil r1
  obtain rfl : args = #[v0, v1] := by cases args; simp_all
  obtain ⟨rfl, rfl⟩ := trodVars_none hV
  obtain ⟨a0, len0, cap0, rfl⟩ := okWide_slice Try.underlying22 (hval 0 22 v0 rfl rfl)
  have k0 := h0
  have lt0 : ∀ x ∈ p0, x.block < W.heap.size := by obtain ⟨m, hm⟩ := k0; exact DataW.trod_lt m _ _ _ hm
  obtain ⟨x0, hx0⟩ : ∃ x, (Go.Proofs.YtfikglnnkbldaaaW.PrintWords.Kd.slice 60 B.k60).K W x [.slice a0 len0 cap0] := by
    obtain ⟨fuel, hf⟩ := h0
    exact (B.opens_lStmts enc W fuel).2 fuel _ _ (Nat.le_refl _) (by simpa [Value.cells] using hf)
  obtain ⟨A0, m0, e0, l0, g0⟩ := hx0
  injection e0 with e0 _
  injection e0 with ea0 en0 ec0
  subst ea0 en0 ec0
  obtain ⟨c1, rfl, hs1⟩ := okWide_struct Try.underlying31 (hval 1 31 v1 rfl rfl)
  have k1 := h1
  have lt1 : ∀ x ∈ p1, x.block < W.heap.size := by obtain ⟨m, hm⟩ := k1; exact DataW.trod_lt m _ _ _ hm
  obtain ⟨x1, hx1⟩ : ∃ x, B.k31.K W x c1.toList := by
    obtain ⟨fuel, hf⟩ := h1
    exact (B.opens_lAddr enc W fuel).2 fuel _ _ (Nat.le_refl _) (by simpa [Value.cells] using hf)
  have hc1 := B.k31_open hx1
  obtain ⟨y1, hy1⟩ : ∃ y : Array Value, y = c1 := ⟨_, rfl⟩
  obtain ⟨z1⟩ := c1
  simp only at hc1
  subst hc1
  clear hA0 hval0 hsz0
  refine (B.law_SlimWrites x0 _ _ x1 W g0 l0).mono fun e W' ⟨he, bel⟩ => ?_
  subst he
  exact ⟨_, rfl, _, _, _, [], _, [], hW', trodAll_mk1 (shut_bool Try.underlying4 _), (trodAll_cons_mk (Below.trod laidOut (by kernel_rfl) (of_decide_eq_true (by kernel_rfl)) k0 bel lt0) (trodAll_cons_mk (Below.trod laidOut (by kernel_rfl) (of_decide_eq_true (by kernel_rfl)) k1 bel lt1) trodAll_mk0)), rfl, bel.frame _, fun h => by cases h⟩
theorem over : Rows.fnExactSlimWritesRow.holds Try.pinned (OpenSpec.ofChange Rows.fnExactSlimWritesSpec) :=
  OpenClaim.holds_of_wide 5 Try.f5 rfl rfl rfl rfl rfl rfl rfl ⟨rfl, rfl, rfl, rfl, rfl⟩ rfl rfl rfl rfl rfl (by kernel_rfl) Try.func5 (by kernel_rfl)
    (of_decide_eq_true (by kernel_rfl)) (by unfold Func.isWrapper; first | (rw [if_pos (by decide +kernel)]; kernel_rfl) | (rw [if_neg (by decide +kernel)]; exact ⟨rfl, rfl⟩))
    (fun os started H enc _ => lifted os started H enc)
theorem proved : Rows.FnExactSlimWritesSaid := over
#print axioms proved
end Go.Proofs.Ytfikglnnkbldaaa.fnExactSlimWrites
namespace Go.Proofs.Ytfikglnnkbldaaa
/-- The row, under a short name, for the claim. -/
theorem fnExactSlimWrites_holds : Rows.FnExactSlimWritesSaid := fnExactSlimWrites.proved
end Go.Proofs.Ytfikglnnkbldaaa
