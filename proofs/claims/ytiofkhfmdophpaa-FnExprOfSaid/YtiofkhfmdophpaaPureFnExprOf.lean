/- What is drawn comes, of a drawn memory, to what its kind makes of what its parts come to; within its bounds. For every code. -/
import Derived.Test.YtiofkhfmdophpaaEv
import Derived.Test.YtiofkhfmdophpaaF12
namespace Go.Proofs.Ytiofkhfmdophpaa.Pure
open Go.RowKit Go.Proofs.Ytiofkhfmdophpaa.B Go.Proofs.YtiofkhfmdophpaaW.PrintWords Go.Proofs.YtiofkhfmdophpaaW.PrintLast Go.Proofs.YtiofkhfmdophpaaW.PrintMore
set_option linter.unusedVariables false

theorem fin_two (k : Nat) (x v0 v1 : Int) (j : Int) (e : Ex) (m0 m1 m2 : List Int) (hj : ¬ j < (e.f3.length : Int)) (h : 3 ≤ e.f0 ∧ e.f0 ≤ 9) :
  laws_FnExprOf.l0 (k + 1) x [v0, v1] j e.f0 e.f1 e.f2.f0 e.f2.f1 e.f3 m0 m1 m2 = some (x == twoI e.f0 v0 v1) := by
 have h' : e.f0 = 3 ∨ e.f0 = 4 ∨ e.f0 = 5 ∨ e.f0 = 6 ∨ e.f0 = 7 ∨ e.f0 = 8 ∨ e.f0 = 9 := by omega
 have r0 : rd [v0, v1] 0 = v0 := rfl
 have r1 : rd [v0, v1] 1 = v1 := rfl
 have p0 : (0 : Int) < (([v0, v1] : List Int).length : Int) := by simp
 have p1 : (1 : Int) < (([v0, v1] : List Int).length : Int) := by simp
 rw [laws_FnExprOf.l0, if_neg hj]
 simp only [r0, r1, if_pos p0, if_pos p1]
 rcases h' with h | h | h | h | h | h | h <;> rw [h]
 ·rw [if_neg (by decide), if_neg (by decide), if_pos rfl, add_is, two3]; rfl
 ·rw [if_neg (by decide), if_neg (by decide), if_neg (by decide), if_pos rfl, sub_is, two4]; rfl
 ·rw [if_neg (by decide), if_neg (by decide), if_neg (by decide), if_neg (by decide), if_pos rfl, mul_is, two5]; rfl
 ·rw [if_neg (by decide), if_neg (by decide), if_neg (by decide), if_neg (by decide), if_neg (by decide), if_pos rfl, numIs_is, two6]; rfl
 ·rw [if_neg (by decide), if_neg (by decide), if_neg (by decide), if_neg (by decide), if_neg (by decide), if_neg (by decide), if_pos rfl, numIs_is, two7]; rfl
 ·rw [if_neg (by decide), if_neg (by decide), if_neg (by decide), if_neg (by decide), if_neg (by decide), if_neg (by decide), if_neg (by decide), if_pos rfl, two8]
  by_cases hz : v0 = 0
  ·rw [if_pos hz, numIs_is, hz]; rfl
  ·rw [if_neg hz, numIs_is, show (v0 != 0) = true from bne_iff_ne.2 hz]; rfl
 ·rw [if_neg (by decide), if_neg (by decide), if_neg (by decide), if_neg (by decide), if_neg (by decide), if_neg (by decide), if_neg (by decide), if_neg (by decide), if_pos rfl, two9]
  by_cases hz : v0 = 0
  ·rw [if_pos hz, numIs_is, hz]; rfl
  ·rw [if_neg hz, numIs_is, show (v0 != 0) = true from bne_iff_ne.2 hz]; rfl
theorem round (k : Nat) (x : Int) (ks : List Int) (j : Nat) (e : Ex) (m0 m1 m2 : List Int) (hj : j < e.f3.length) (hl : e.f3.length ≤ 2) (hk : ks.length = 2) :
  laws_FnExprOf.l0 (k + 1) x ks j e.f0 e.f1 e.f2.f0 e.f2.f1 e.f3 m0 m1 m2 = laws_FnExprOf.l0 k x (ks.set j (ofV e.f3[j] m0 m1 m2)) ((j + 1 : Nat) : Int) e.f0 e.f1 e.f2.f0 e.f2.f1 e.f3 m0 m1 m2 := by
 conv => lhs; rw [laws_FnExprOf.l0]
 rw [if_pos (by omega), if_pos (by omega), rd_get e.f3 j hj, implOf]
 simp only [Option.bind_some]
 rw [if_pos (by omega), wrap_id (by omega) (by omega)]; rfl
theorem loop (x : Int) (e : Ex) (m0 m1 m2 : List Int) (hm : memOkL m0 m1 m2 = true) (ho : okE e = true) (hx : x = evalI (m0 ++ m1 ++ m2) e) :
  ∀ k, laws_FnExprOf.l0 (k + 4) x [0, 0] 0 e.f0 e.f1 e.f2.f0 e.f2.f1 e.f3 m0 m1 m2 = some true := by
 intro k
 have ho' := ho
 rw [okE_iff, formS, Bool.and_eq_true] at ho'
 have hh := ho'.1.1
 unfold headOk at hh
 rw [Bool.and_eq_true, Bool.and_eq_true] at hh
 obtain ⟨⟨hk, hl⟩, hs⟩ := hh
 have hk' : 1 ≤ e.f0 ∧ e.f0 ≤ 10 := of_decide_eq_true hk
 have hl' : (e.f3.length : Int) = kidsN e.f0 := by simpa using hl
 have hkid : ∀ y ∈ e.f3, ofV y m0 m1 m2 = evalI (m0 ++ m1 ++ m2) y := fun y hy => ofV_yes hm (okE_kid ho hy)
 have hE := evalI_eq (m0 ++ m1 ++ m2) e
 rw [← hx] at hE
 by_cases h1 : e.f0 = 1
 ·have h0 : e.f3.length = 0 := by rw [kidsN, if_pos (.inl h1)] at hl'; omega
  rw [if_pos h1] at hE
  rw [laws_FnExprOf.l0, if_neg (by omega), if_pos h1, hE, beq_self_eq_true]
 ·by_cases h2 : e.f0 = 2
  ·have h0 : e.f3.length = 0 := by rw [kidsN, if_pos (.inr h2)] at hl'; omega
   rw [if_neg h1, if_pos h2] at hE
   rw [laws_FnExprOf.l0, if_neg (by omega), if_neg h1, if_pos h2, impl_MemGet.f, memGetV, hm, hE]
   simp
  ·by_cases h10 : e.f0 = 10
   ·have h0 : e.f3.length = 1 := by rw [h10, show kidsN 10 = 1 from rfl] at hl'; omega
    rw [if_neg h1, if_neg h2, if_pos h10] at hE
    have hr := round (k + 3) x [0, 0] 0 e m0 m1 m2 (by omega) (by omega) rfl
    refine hr.trans ?_
    rw [hkid _ (List.getElem_mem _)]
    have hv : (e.f3.map (evalI (m0 ++ m1 ++ m2))).getD 0 0 = evalI (m0 ++ m1 ++ m2) (e.f3[0]'(by omega)) := by simp [List.getD_eq_getElem?_getD, h0]
    rw [hv] at hE
    have r0 : ∀ v : Int, rd ([0, 0].set 0 v) 0 = v := fun v => rfl
    rw [laws_FnExprOf.l0, if_neg (by omega), if_neg h1, if_neg h2, if_neg (by omega), if_neg (by omega), if_neg (by omega), if_neg (by omega), if_neg (by omega), if_neg (by omega), if_neg (by omega), if_pos (by simp), r0, numIs_is]
    simp only [Option.bind_some]
    rw [hE, isL]
    by_cases hz : evalI (m0 ++ m1 ++ m2) (e.f3[0]'(by omega)) = 0
    ·rw [if_pos hz, hz]; rfl
    ·rw [if_neg hz, if_neg (by simpa using hz)]; rfl
   ·have h39 : 3 ≤ e.f0 ∧ e.f0 ≤ 9 := by omega
    have h0 : e.f3.length = 2 := by rw [kidsN, if_neg (by omega), if_pos h39] at hl'; omega
    rw [if_neg h1, if_neg h2, if_neg h10] at hE
    have hr := round (k + 3) x [0, 0] 0 e m0 m1 m2 (by omega) (by omega) rfl
    have hr2 := round (k + 2) x ([0, 0].set 0 (ofV (e.f3[0]'(by omega)) m0 m1 m2)) 1 e m0 m1 m2 (by omega) (by omega) rfl
    refine hr.trans (hr2.trans ?_)
    rw [hkid _ (List.getElem_mem _), hkid _ (List.getElem_mem _)]
    have hv : (e.f3.map (evalI (m0 ++ m1 ++ m2))).getD 0 0 = evalI (m0 ++ m1 ++ m2) (e.f3[0]'(by omega)) := by simp [List.getD_eq_getElem?_getD, h0]
    have hv1 : (e.f3.map (evalI (m0 ++ m1 ++ m2))).getD 1 0 = evalI (m0 ++ m1 ++ m2) (e.f3[1]'(by omega)) := by simp [List.getD_eq_getElem?_getD, h0]
    rw [hv, hv1] at hE
    refine (fin_two (k + 1) x _ _ _ e m0 m1 m2 (by omega) h39).trans ?_
    rw [hE, beq_self_eq_true]
theorem FnExprOf : laws_FnExprOf.Pure := by
 intro l hl1 hl2 hw
 by_cases hlen : (l.length : Int) > 1048576
 ·exact ⟨0, by rw [laws_FnExprOf.f, if_pos hlen]⟩
 obtain ⟨e, m0, m1, m2, K1, he, hm, h1⟩ := drawOf_total l hw
 obtain ⟨K2, h2⟩ := specOf_ev e he.short m0 m1 m2 hm
 obtain ⟨K3, h3⟩ := specOk_ev e he.short
 obtain ⟨K4, h4⟩ := specMem_ev m0 m1 m2 hm
 refine ⟨K1 + K2 + K3 + K4 + 4 + 1 + 1, ?_⟩
 rw [laws_FnExprOf.f, if_neg hlen, h1 _ (by omega)]
 simp only [Option.bind_some]
 rw [implOf]
 simp only [Option.bind_some]
 rw [h2 _ (by omega)]
 simp only [Option.bind_some]
 rw [if_pos trivial, cutI, cutL_id (ofV_in e m0 m1 m2)]
 simp only [Option.bind_some]
 rw [laws_FnExprOf.j0, bne_self_eq_false, if_neg (by decide), h3 _ (by omega)]
 simp only [Option.bind_some]
 cases ho : okE e with
 | false => rw [if_neg (by decide), laws_FnExprOf.j1, if_pos rfl, ofV_no (.inl ho)]; rfl
 | true =>
  rw [if_pos rfl, h4 _ (by omega)]
  simp only [Option.bind_some]
  cases hv : memOkL m0 m1 m2 with
  | false => rw [Bool.not_false, laws_FnExprOf.j1, if_pos rfl, ofV_no (.inr hv)]; rfl
  | true =>
   rw [Bool.not_true, laws_FnExprOf.j1, if_neg (by decide)]
   exact loop _ e m0 m1 m2 hv ho (ofV_yes hv ho) _
end Go.Proofs.Ytiofkhfmdophpaa.Pure
