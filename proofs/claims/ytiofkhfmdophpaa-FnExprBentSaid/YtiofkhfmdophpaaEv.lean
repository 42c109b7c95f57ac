/- What the specification and the program say of what is drawn, for every number of rounds that is great enough. -/
import Derived.Test.YtiofkhfmdophpaaDrawAll
import Derived.Test.YtiofkhfmdophpaaEvals
import Derived.Test.YtiofkhfmdophpaaZOf
import Derived.Test.YtiofkhfmdophpaaZOk
namespace Go.Proofs.Ytiofkhfmdophpaa.B
open Go.RowKit Go.Proofs.YtiofkhfmdophpaaW.PrintWords Go.Proofs.YtiofkhfmdophpaaW.PrintLast Go.Proofs.YtiofkhfmdophpaaW.PrintMore
set_option linter.unusedVariables false

theorem ev_up {α : Type} {f : Nat → Option α} (h : ∀ k, LeO (f k) (f (k + 1))) {r : α} (hr : ∃ k, f k = some r) : ∃ K, ∀ k, K ≤ k → f k = some r := by
 obtain ⟨K, hK⟩ := hr
 exact ⟨K, fun k hk => up_le h hk hK⟩
theorem specOk_ev (e : Ex) (he : Short e) : ∃ K, ∀ k, K ≤ k → spec_ExprOk.f k e.f0 e.f1 e.f2.f0 e.f2.f1 e.f3 = some (okE e) :=
 ev_up (f := fun k => spec_ExprOk.f k e.f0 e.f1 e.f2.f0 e.f2.f1 e.f3) (fun k => spec_ExprOk.mono _ _ _ _ _ k) (exprOk_spec e he)
theorem specMem_ev (m0 m1 m2 : List Int) (h : Mini m0 m1 m2) : ∃ K, ∀ k, K ≤ k → spec_MemOk.f k m0 m1 m2 = some (memOkL m0 m1 m2) :=
 ev_up (f := fun k => spec_MemOk.f k m0 m1 m2) (fun k => spec_MemOk.mono _ _ _ k) (memOk_spec m0 m1 m2 (by have := h.1; omega) (by have := h.2.1; omega) (by have := h.2.2; omega))
theorem specOf_ev (e : Ex) (he : Short e) (m0 m1 m2 : List Int) (h : Mini m0 m1 m2) : ∃ K, ∀ k, K ≤ k → spec_ExprOf.f k e.f0 e.f1 e.f2.f0 e.f2.f1 e.f3 m0 m1 m2 = some (ofV e m0 m1 m2) :=
 ev_up (f := fun k => spec_ExprOf.f k e.f0 e.f1 e.f2.f0 e.f2.f1 e.f3 m0 m1 m2) (fun k => spec_ExprOf.mono _ _ _ _ _ _ _ _ k) (exprOf_spec e he m0 m1 m2 (by have := h.1; omega) (by have := h.2.1; omega) (by have := h.2.2; omega))
theorem implOf (e : Ex) (m0 m1 m2 : List Int) : impl_ExprOf.f e.f0 e.f1 e.f2.f0 e.f2.f1 e.f3 m0 m1 m2 = some (ofV e m0 m1 m2) := by rw [impl_ExprOf.f, ex_eta]
theorem implOk (e : Ex) : impl_ExprOk.f e.f0 e.f1 e.f2.f0 e.f2.f1 e.f3 = some (okE e) := by rw [impl_ExprOk.f, ex_eta]; rfl
theorem ofV_yes {e : Ex} {m0 m1 m2 : List Int} (hm : memOkL m0 m1 m2 = true) (ho : okE e = true) : ofV e m0 m1 m2 = evalI (m0 ++ m1 ++ m2) e := by rw [ofV_eq, hm, ho]; rfl
theorem ofV_no {e : Ex} {m0 m1 m2 : List Int} (h : okE e = false ∨ memOkL m0 m1 m2 = false) : ofV e m0 m1 m2 = 0 := by
 rw [ofV_eq]
 rcases h with h | h <;> rw [h] <;> simp
theorem short_n2 (k : Int) {a b : Ex} (ha : Short a) (hb : Short b) : Short (n2 k a b) := .mk _ (by simp [n2]) (by intro x hx; simp [n2] at hx; rcases hx with rfl | rfl <;> assumption)
theorem short_n1 {a : Ex} (ha : Short a) : Short (n1 a) := .mk _ (by simp [n1]) (by intro x hx; simp [n1] at hx; rw [hx]; exact ha)
end Go.Proofs.Ytiofkhfmdophpaa.B
