/- What the law FnExprMorgan says of two trees and a memory, with no program in sight. -/
import Derived.Test.YtiofkhfmdophpaaVal
namespace Go.Proofs.Ytiofkhfmdophpaa.B
open Go Go.RowKit Go.Proofs.YtiofkhfmdophpaaW.PrintWords Go.Proofs.YtiofkhfmdophpaaW.PrintLast Go.Proofs.YtiofkhfmdophpaaW.PrintMore
set_option linter.unusedVariables false

theorem isL_eq0 (b : Bool) : (isL b == 0) = !b := by cases b <;> rfl
theorem isL_ne0 (b : Bool) : (isL b != 0) = b := by cases b <;> rfl
/-- Two of another kind are ok, where not both is. -/
theorem okE_two {k : Int} (hk : 3 ≤ k ∧ k ≤ 9) {a b : Ex} (h : okE (n1 (n2 8 a b)) = true) : okE (n2 k a b) = true := by
 rw [okE_n1, form_n2 4 8 (by decide), many_n2, Bool.and_eq_true] at h
 obtain ⟨⟨fa, fb⟩, hm⟩ := h
 rw [okE_n2 k hk, many_up 4 a fa, many_up 4 b fb]
 exact ⟨⟨form_up 4 a fa, form_up 4 b fb⟩, by omega⟩
theorem okE_left {a b : Ex} (h : okE (n1 (n2 8 a b)) = true) : okE a = true := okE_kid (x := a) (okE_not h) (by simp [n2])
theorem isL_bd (b : Bool) : 0 ≤ isL b ∧ isL b ≤ 1 := by cases b <;> simp [isL]
theorem oV_yes {e : Ex} {m : List Int × List Int × List Int} (hm : mOk m = true) (ho : okE e = true) : oV e m = evalI (m.1 ++ m.2.1 ++ m.2.2) e := ofV_yes hm ho
theorem morgan_facts (x y : Ex) (m : List Int × List Int × List Int) (h1 : okE (n1 (n2 8 x y)) = true) (h2 : okE (n2 9 (n1 x) (n1 y)) = true) (h3 : mOk m = true) :
  oV (n1 (n2 8 x y)) m = oV (n2 9 (n1 x) (n1 y)) m ∧
  (∀ k1 k2 k3 s1 s2 s3, k1 = n2 6 x y → k2 = n2 6 y x → k3 = n2 7 x y → s1 = oV k1 m → s2 = oV k2 m → s3 = oV k3 m → 0 ≤ s1 ∧ s1 ≤ 1 ∧ 0 ≤ s2 ∧ s2 ≤ 1 ∧ 0 ≤ s3 ∧ s3 ≤ 1 ∧ s1 + s2 + s3 = 1) ∧
  (∀ u1 u2 v1 v2 v3, u1 = n1 x → u2 = n1 u1 → v1 = oV u2 m → v2 = oV x m → v3 = isL (v2 != 0) → (v1 != v3) = true → okE u2 = false) := by
 refine ⟨?_, ?_, ?_⟩
 ·rw [oV_yes h3 h1, oV_yes h3 h2, eval_n1, eval_n2 _ 8 (by decide), eval_n2 _ 9 (by decide), eval_n1, eval_n1, two8, two9, isL_eq0, isL_ne0, isL_ne0, Bool.not_and]
  congr 1
  simp [bne]
 ·rintro _ _ _ _ _ _ rfl rfl rfl rfl rfl rfl
  have o1 : okE (n2 6 x y) = true := okE_two (by decide) h1
  have o3 : okE (n2 7 x y) = true := okE_two (by decide) h1
  have o2 : okE (n2 6 y x) = true := by
   rw [okE_n2 6 (by decide)] at o1 ⊢
   exact ⟨⟨o1.1.2, o1.1.1⟩, by omega⟩
  rw [oV_yes h3 o1, oV_yes h3 o2, oV_yes h3 o3, eval_n2 _ 6 (by decide), eval_n2 _ 6 (by decide), eval_n2 _ 7 (by decide), two6, two6, two7]
  generalize evalI (m.1 ++ m.2.1 ++ m.2.2) x = a
  generalize evalI (m.1 ++ m.2.1 ++ m.2.2) y = b
  refine ⟨(isL_bd _).1, (isL_bd _).2, (isL_bd _).1, (isL_bd _).2, (isL_bd _).1, (isL_bd _).2, ?_⟩
  rcases Int.lt_trichotomy a b with h | h | h
  ·rw [decide_eq_true h, decide_eq_false (by omega), show (a == b) = false from beq_false_of_ne (by omega)]; rfl
  ·rw [decide_eq_false (by omega), decide_eq_false (by omega), show (a == b) = true from beq_iff_eq.2 h]; rfl
  ·rw [decide_eq_false (by omega), decide_eq_true h, show (a == b) = false from beq_false_of_ne (by omega)]; rfl
 ·rintro _ _ _ _ _ rfl rfl rfl rfl rfl h
  cases h4 : okE (n1 (n1 x)) with
  | false => rfl
  | true =>
   exfalso
   rw [oV_yes h3 h4, oV_yes h3 (okE_left h1), eval_n1, eval_n1, isL_eq0] at h
   simp [bne] at h
end Go.Proofs.Ytiofkhfmdophpaa.B
