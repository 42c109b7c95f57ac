/- The laws' own makers of two and of not, as plain facts. -/
import Derived.Test.YtiofkhfmdophpaaEv
import Derived.Test.YtiofkhfmdophpaaPkC
namespace Go.Proofs.Ytiofkhfmdophpaa.B
open Go.RowKit Go.Proofs.YtiofkhfmdophpaaW.PrintWords Go.Proofs.YtiofkhfmdophpaaW.PrintLast Go.Proofs.YtiofkhfmdophpaaW.PrintMore
set_option linter.unusedVariables false

def tup (e : Ex) : Int × Int × Int × Int × List Ex := (e.f0, e.f1, e.f2.f0, e.f2.f1, e.f3)
theorem wqNot_e (a : Ex) : laws_wqNot.f a.f0 a.f1 a.f2.f0 a.f2.f1 a.f3 = some (tup (n1 a)) := by rw [laws_wqNot.f, ex_eta]; rfl
theorem wqNot_t (a : Ex) : laws_wqNot.f (tup a).1 (tup a).2.1 (tup a).2.2.1 (tup a).2.2.2.1 (tup a).2.2.2.2 = some (tup (n1 a)) := wqNot_e a
theorem wqTwo_ee (k : Int) (a b : Ex) : laws_wqTwo.f k a.f0 a.f1 a.f2.f0 a.f2.f1 a.f3 b.f0 b.f1 b.f2.f0 b.f2.f1 b.f3 = some (tup (n2 k a b)) := by rw [laws_wqTwo.f, ex_eta, ex_eta]; rfl
theorem wqTwo_et (k : Int) (a b : Ex) : laws_wqTwo.f k a.f0 a.f1 a.f2.f0 a.f2.f1 a.f3 (tup b).1 (tup b).2.1 (tup b).2.2.1 (tup b).2.2.2.1 (tup b).2.2.2.2 = some (tup (n2 k a b)) := wqTwo_ee k a b
theorem wqTwo_tt (k : Int) (a b : Ex) : laws_wqTwo.f k (tup a).1 (tup a).2.1 (tup a).2.2.1 (tup a).2.2.2.1 (tup a).2.2.2.2 (tup b).1 (tup b).2.1 (tup b).2.2.1 (tup b).2.2.2.1 (tup b).2.2.2.2 = some (tup (n2 k a b)) := wqTwo_ee k a b
theorem implOf_t (e : Ex) (m0 m1 m2 : List Int) : impl_ExprOf.f (tup e).1 (tup e).2.1 (tup e).2.2.1 (tup e).2.2.2.1 (tup e).2.2.2.2 m0 m1 m2 = some (ofV e m0 m1 m2) := implOf e m0 m1 m2
theorem implOk_t (e : Ex) : impl_ExprOk.f (tup e).1 (tup e).2.1 (tup e).2.2.1 (tup e).2.2.2.1 (tup e).2.2.2.2 = some (okE e) := implOk e
theorem specOk_t (e : Ex) (he : Short e) : ∃ K, ∀ k, K ≤ k → spec_ExprOk.f k (tup e).1 (tup e).2.1 (tup e).2.2.1 (tup e).2.2.2.1 (tup e).2.2.2.2 = some (okE e) := specOk_ev e he
theorem specOf_t (e : Ex) (he : Short e) (m0 m1 m2 : List Int) (h : Mini m0 m1 m2) : ∃ K, ∀ k, K ≤ k → spec_ExprOf.f k (tup e).1 (tup e).2.1 (tup e).2.2.1 (tup e).2.2.2.1 (tup e).2.2.2.2 m0 m1 m2 = some (ofV e m0 m1 m2) := specOf_ev e he m0 m1 m2 h
/-- What asks whether something is so comes to 0 or 1. -/
theorem isL_01 (b : Bool) : isL b = 0 ∨ isL b = 1 := by cases b <;> simp [isL]
theorem evalI_01 (bs : List Int) (e : Ex) (h : 6 ≤ e.f0) : evalI bs e = 0 ∨ evalI bs e = 1 ∨ ¬ (e.f0 ≤ 10) := by
 by_cases h10 : e.f0 ≤ 10
 ·rw [evalI_eq, if_neg (by omega), if_neg (by omega)]
  have h' : e.f0 = 6 ∨ e.f0 = 7 ∨ e.f0 = 8 ∨ e.f0 = 9 ∨ e.f0 = 10 := by omega
  have hb : ∀ b : Bool, isL b = 0 ∨ isL b = 1 ∨ ¬ (e.f0 ≤ 10) := fun b => by rcases isL_01 b with h | h <;> simp [h]
  rcases h' with h | h | h | h | h
  ·rw [if_neg (by omega), h, two6]; exact h ▸ hb _
  ·rw [if_neg (by omega), h, two7]; exact h ▸ hb _
  ·rw [if_neg (by omega), h, two8]; exact h ▸ hb _
  ·rw [if_neg (by omega), h, two9]; exact h ▸ hb _
  ·rw [if_pos h]; split <;> simp
 ·exact .inr (.inr h10)
theorem okE_head {e : Ex} (h : okE e = true) : 1 ≤ e.f0 ∧ e.f0 ≤ 10 := by
 rw [okE_iff, formS, Bool.and_eq_true] at h
 have hh := h.1.1
 unfold headOk at hh
 rw [Bool.and_eq_true, Bool.and_eq_true] at hh
 exact of_decide_eq_true hh.1.1
theorem ofV_01 (e : Ex) (m0 m1 m2 : List Int) (h : 6 ≤ e.f0) : ofV e m0 m1 m2 = 0 ∨ ofV e m0 m1 m2 = 1 := by
 cases ho : okE e with
 | false => exact .inl (ofV_no (.inl ho))
 | true =>
  cases hm : memOkL m0 m1 m2 with
  | false => exact .inl (ofV_no (.inr hm))
  | true =>
   rw [ofV_yes hm ho]
   rcases evalI_01 (m0 ++ m1 ++ m2) e h with h | h | h
   ·exact .inl h
   ·exact .inr h
   ·exact absurd (okE_head ho).2 h
theorem okE_not {a : Ex} (h : okE (n1 a) = true) : okE a = true := okE_kid (x := a) h (by simp [n1])
end Go.Proofs.Ytiofkhfmdophpaa.B
