/- Two that are drawn come to the same whichever is first, added, multiplied, compared, both, and one of the two; subtracted to the opposite. For every two codes. -/
import Derived.Test.YtiofkhfmdophpaaWq
import Derived.Test.YtiofkhfmdophpaaF9
namespace Go.Proofs.Ytiofkhfmdophpaa.Pure
open Go.RowKit Go.Proofs.Ytiofkhfmdophpaa.B Go.Proofs.YtiofkhfmdophpaaW.PrintWords Go.Proofs.YtiofkhfmdophpaaW.PrintLast Go.Proofs.YtiofkhfmdophpaaW.PrintMore
set_option linter.unusedVariables false

theorem okE_swap (k : Int) (h : 3 ≤ k ∧ k ≤ 9) (a b : Ex) : okE (n2 k a b) = okE (n2 k b a) := by
 rw [Bool.eq_iff_iff, okE_n2 k h, okE_n2 k h]
 constructor <;> (rintro ⟨⟨x, y⟩, z⟩; exact ⟨⟨y, x⟩, by omega⟩)
theorem two_swap (k : Int) (h : k = 3 ∨ k = 5 ∨ k = 7 ∨ k = 8 ∨ k = 9) (a b : Int) : twoI k a b = twoI k b a := by
 rcases h with rfl | rfl | rfl | rfl | rfl
 ·rw [two3, two3, Int.add_comm]
 ·rw [two5, two5, Int.mul_comm]
 ·rw [two7, two7, show (a == b) = (b == a) by rw [Bool.eq_iff_iff, beq_iff_eq, beq_iff_eq]; exact eq_comm]
 ·rw [two8, two8, Bool.and_comm]
 ·rw [two9, two9, Bool.or_comm]
theorem ofV_swap (k : Int) (h : k = 3 ∨ k = 5 ∨ k = 7 ∨ k = 8 ∨ k = 9) (a b : Ex) (m0 m1 m2 : List Int) : ofV (n2 k a b) m0 m1 m2 = ofV (n2 k b a) m0 m1 m2 := by
 rw [ofV_eq, ofV_eq, okE_swap k (by omega) a b, eval_n2 _ k (by omega), eval_n2 _ k (by omega), two_swap k h]
theorem ofV_sub (a b : Ex) (m0 m1 m2 : List Int) : ofV (n2 4 a b) m0 m1 m2 = - ofV (n2 4 b a) m0 m1 m2 := by
 rw [ofV_eq, ofV_eq, okE_swap 4 (by omega) a b, eval_n2 _ 4 (by omega), eval_n2 _ 4 (by omega), two4, two4]
 split
 ·have h1 := cutL_in (evalI (m0 ++ m1 ++ m2) a)
  have h2 := cutL_in (evalI (m0 ++ m1 ++ m2) b)
  generalize cutL (evalI (m0 ++ m1 ++ m2) a) = p at *
  generalize cutL (evalI (m0 ++ m1 ++ m2) b) = q at *
  unfold cutL
  repeat' split
  all_goals omega
 ·rfl
theorem swap_end (k : Nat) (a b : Ex) (m0 m1 m2 : List Int) (ks : List Int) (n : Int) :
  laws_FnExprSwap.l0 (k + 1) ks n n a.f0 a.f1 a.f2.f0 a.f2.f1 a.f3 m0 m1 m2 b.f0 b.f1 b.f2.f0 b.f2.f1 b.f3 = some true := by
 rw [laws_FnExprSwap.l0, if_neg (by omega), wqTwo_ee]
 simp only [Option.bind_some]
 rw [implOf_t]
 simp only [Option.bind_some]
 rw [wqTwo_ee]
 simp only [Option.bind_some]
 rw [implOf_t]
 simp only [Option.bind_some]
 have hb := ofV_in (n2 4 b a) m0 m1 m2
 rw [wrap_in (by omega), ofV_sub a b, beq_self_eq_true]
theorem swap_round (a b : Ex) (ha : Short a) (hb : Short b) (m0 m1 m2 : List Int) (hm : Mini m0 m1 m2) (ks : List Int) (hks : ∀ x ∈ ks, x = 3 ∨ x = 5 ∨ x = 7 ∨ x = 8 ∨ x = 9) (hl : ks.length = 5) (j : Nat) (hj : j < ks.length)
  (ih : ∃ K, ∀ k, K ≤ k → laws_FnExprSwap.l0 k ks 5 ((j + 1 : Nat) : Int) a.f0 a.f1 a.f2.f0 a.f2.f1 a.f3 m0 m1 m2 b.f0 b.f1 b.f2.f0 b.f2.f1 b.f3 = some true) :
  ∃ K, ∀ k, K ≤ k → laws_FnExprSwap.l0 k ks 5 (j : Int) a.f0 a.f1 a.f2.f0 a.f2.f1 a.f3 m0 m1 m2 b.f0 b.f1 b.f2.f0 b.f2.f1 b.f3 = some true := by
 obtain ⟨K, h⟩ := ih
 have hr := rd_mem ks j (by omega) (by omega)
 obtain ⟨x, hx⟩ : ∃ x, x = rd ks (j : Int) := ⟨_, rfl⟩
 rw [← hx] at hr
 obtain ⟨K2, h2⟩ := specOf_t (n2 x a b) (short_n2 x ha hb) m0 m1 m2 hm
 refine ⟨K + K2 + 1, fun k hk => ?_⟩
 obtain ⟨k', rfl⟩ : ∃ k', k = k' + 1 := ⟨k - 1, by omega⟩
 rw [laws_FnExprSwap.l0, if_pos (by omega), if_pos (by omega), if_pos (by omega), ← hx, wqTwo_ee]
 simp only [Option.bind_some]
 rw [implOf_t]
 simp only [Option.bind_some]
 rw [h2 _ (by omega)]
 simp only [Option.bind_some]
 rw [if_pos trivial, wqTwo_ee]
 simp only [Option.bind_some]
 rw [implOf_t]
 simp only [Option.bind_some]
 rw [if_pos (ofV_swap x (hks x hr) a b m0 m1 m2), wrap_id (by omega) (by omega)]
 exact h _ (by omega)
theorem FnExprSwap : laws_FnExprSwap.Pure := by
 intro l l' hl1 hl2 hw hl3 hl4 hw'
 by_cases hlen : (l.length : Int) > 1048576
 ·exact ⟨1, by rw [laws_FnExprSwap.f, if_pos hlen, laws_FnExprSwap.j0, if_pos rfl]⟩
 by_cases hlen' : (l'.length : Int) > 1048576
 ·exact ⟨1, by rw [laws_FnExprSwap.f, if_neg hlen, decide_eq_true hlen', laws_FnExprSwap.j0, if_pos rfl]⟩
 obtain ⟨a, m0, m1, m2, K1, ha, hm, h1⟩ := drawOf_total l hw
 obtain ⟨b, n0, n1, n2, K2, hb, hn, h2⟩ := drawOf_total l' hw'
 have hks : ∀ x ∈ ([3, 5, 7, 8, 9] : List Int), x = 3 ∨ x = 5 ∨ x = 7 ∨ x = 8 ∨ x = 9 := by intro x hx; simpa using hx
 have step := swap_round a b ha.short hb.short m0 m1 m2 hm [3, 5, 7, 8, 9] hks rfl
 obtain ⟨K3, h3⟩ := step 0 (by decide) (step 1 (by decide) (step 2 (by decide) (step 3 (by decide) (step 4 (by decide) ⟨1, fun k hk => by
  obtain ⟨k', rfl⟩ : ∃ k', k = k' + 1 := ⟨k - 1, by omega⟩
  exact swap_end k' a b m0 m1 m2 _ 5⟩))))
 refine ⟨K1 + K2 + K3 + 1, ?_⟩
 rw [laws_FnExprSwap.f, if_neg hlen, decide_eq_false hlen', laws_FnExprSwap.j0, if_neg (by decide), h1 _ (by omega)]
 simp only [Option.bind_some]
 rw [h2 _ (by omega)]
 simp only [Option.bind_some]
 exact h3 _ (by omega)
end Go.Proofs.Ytiofkhfmdophpaa.Pure
