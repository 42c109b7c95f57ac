/- What is drawn and asks whether something is so comes to 0 or 1; not not is whether it is on; it or not it is so. For every code. -/
import Derived.Test.YtiofkhfmdophpaaWq
import Derived.Test.YtiofkhfmdophpaaF11
namespace Go.Proofs.Ytiofkhfmdophpaa.Pure
open Go.RowKit Go.Proofs.Ytiofkhfmdophpaa.B Go.Proofs.YtiofkhfmdophpaaW.PrintWords Go.Proofs.YtiofkhfmdophpaaW.PrintLast Go.Proofs.YtiofkhfmdophpaaW.PrintMore
set_option linter.unusedVariables false

theorem on_j1 (k : Nat) (e : Ex) (m0 m1 m2 : List Int) (ho : okE (n1 (n1 e)) = true) (hm : memOkL m0 m1 m2 = true) :
  laws_FnExprOn.j1 (k + 1) (ofV e m0 m1 m2) false e.f0 e.f1 e.f2.f0 e.f2.f1 e.f3 m0 m1 m2 (tup (n1 (n1 e))).1 (tup (n1 (n1 e))).2.1 (tup (n1 (n1 e))).2.2.1 (tup (n1 (n1 e))).2.2.2.1 (tup (n1 (n1 e))).2.2.2.2 = some true := by
 have ho1 := okE_not ho
 have ho2 := okE_not ho1
 rw [laws_FnExprOn.j1, if_neg (by decide), implOf_t]
 simp only [Option.bind_some]
 rw [numOn_is]
 simp only [Option.bind_some]
 rw [numIs_is]
 simp only [Option.bind_some]
 have e1 : ofV (n1 (n1 e)) m0 m1 m2 = isL (ofV e m0 m1 m2 != 0) := by
  rw [ofV_yes hm ho, ofV_yes hm ho2, eval_n1, eval_n1]
  by_cases hz : evalI (m0 ++ m1 ++ m2) e = 0
  ·rw [hz]; rfl
  ·rw [show (evalI (m0 ++ m1 ++ m2) e == 0) = false from beq_false_of_ne hz, show (evalI (m0 ++ m1 ++ m2) e != 0) = true from bne_iff_ne.2 hz]; rfl
 rw [if_pos e1, wqNot_e]
 simp only [Option.bind_some]
 rw [wqTwo_et]
 simp only [Option.bind_some]
 rw [implOf_t]
 simp only [Option.bind_some]
 by_cases h1 : ofV (n2 9 e (n1 e)) m0 m1 m2 = 1
 ·rw [if_pos h1]
 ·rw [if_neg h1, implOk_t]
  simp only [Option.bind_some]
  cases h9 : okE (n2 9 e (n1 e)) with
  | false => rfl
  | true =>
   refine absurd ?_ h1
   rw [ofV_yes hm h9, eval_n2 _ 9 (by decide), eval_n1, two9]
   by_cases hz : evalI (m0 ++ m1 ++ m2) e = 0
   ·rw [hz]; rfl
   ·rw [show (evalI (m0 ++ m1 ++ m2) e != 0) = true from bne_iff_ne.2 hz]; rfl
theorem on_j0 (e : Ex) (he : Short e) (m0 m1 m2 : List Int) (hm : Mini m0 m1 m2) :
  ∃ K, ∀ k, K ≤ k → laws_FnExprOn.j0 k (ofV e m0 m1 m2) false e.f0 e.f1 e.f2.f0 e.f2.f1 e.f3 m0 m1 m2 = some true := by
 obtain ⟨K3, h3⟩ := specOk_t (n1 (n1 e)) (short_n1 (short_n1 he))
 obtain ⟨K4, h4⟩ := specMem_ev m0 m1 m2 hm
 refine ⟨K3 + K4 + 1 + 1, fun k hk => ?_⟩
 obtain ⟨k', rfl⟩ : ∃ k', k = k' + 1 + 1 := ⟨k - 2, by omega⟩
 rw [laws_FnExprOn.j0, if_neg (by decide), wqNot_e]
 simp only [Option.bind_some]
 rw [wqNot_t]
 simp only [Option.bind_some]
 rw [h3 _ (by omega)]
 simp only [Option.bind_some]
 cases ho : okE (n1 (n1 e)) with
 | false => rw [if_neg (by decide), laws_FnExprOn.j1, if_pos rfl]
 | true =>
  rw [if_pos rfl, h4 _ (by omega)]
  simp only [Option.bind_some]
  cases hv : memOkL m0 m1 m2 with
  | false => rw [Bool.not_false, laws_FnExprOn.j1, if_pos rfl]
  | true => rw [Bool.not_true]; exact on_j1 _ e m0 m1 m2 ho hv
theorem FnExprOn : laws_FnExprOn.Pure := by
 intro l hl1 hl2 hw
 by_cases hlen : (l.length : Int) > 1048576
 ·exact ⟨0, by rw [laws_FnExprOn.f, if_pos hlen]⟩
 obtain ⟨e, m0, m1, m2, K1, he, hm, h1⟩ := drawOf_total l hw
 obtain ⟨K2, h2⟩ := specOf_ev e he.short m0 m1 m2 hm
 obtain ⟨K3, h3⟩ := on_j0 e he.short m0 m1 m2 hm
 refine ⟨K1 + K2 + K3, ?_⟩
 rw [laws_FnExprOn.f, if_neg hlen, h1 _ (by omega)]
 simp only [Option.bind_some]
 rw [implOf]
 simp only [Option.bind_some]
 rw [h2 _ (by omega)]
 simp only [Option.bind_some]
 rw [if_pos trivial]
 by_cases h6 : e.f0 ≥ 6
 ·rw [if_pos h6]
  rcases ofV_01 e m0 m1 m2 (by omega) with h | h
  ·rw [if_pos h]; exact h3 _ (by omega)
  ·rw [if_neg (by omega), show (ofV e m0 m1 m2 != 1) = false by rw [h]; rfl]; exact h3 _ (by omega)
 ·rw [if_neg h6]; exact h3 _ (by omega)
end Go.Proofs.Ytiofkhfmdophpaa.Pure
