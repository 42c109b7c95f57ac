/- Plain law: count and the specification's reckoning of statements agree. -/
import Derived.Test.YtddnijmgipffeaaStSpec
namespace Go.Proofs.Ytddnijmgipffeaa.B
open Go.RowKit Go.Proofs.YtddnijmgipffeaaW.PrintWords Go.Proofs.YtddnijmgipffeaaW.PrintLast Go.Proofs.YtddnijmgipffeaaW.PrintMore
set_option linter.unusedVariables false

def stepOk (d : Nat) (s : ISt) : Bool := headSt s && (formT d s.f3 && formT d s.f4)
def stepN (d : Nat) (s : ISt) : Nat := 1 + manyT d s.f3 + manyT d s.f4
def CntR (r : Bool × Int) (b : Bool) (n : Int) : Prop := r.1 = (b && decide (n ≤ 16)) ∧ (r.1 = true → r.2 = n)
theorem step_law (d : Nat) (ih : ∀ (l : List ISt) (m : Int), m ≤ 16 → CntR (countL d l m) (formT d l) (m + manyT d l)) (s : ISt) (m : Int) (hm : m ≤ 16) : CntR (cntStep d s m) (stepOk d s) (m + stepN d s) := by
 unfold cntStep stepOk stepN
 by_cases h : (decide (m + 1 > 16) || !headSt s) = true
 ·rw [if_pos h]
  rw [Bool.or_eq_true, decide_eq_true_eq] at h
  refine ⟨?_, fun h => by cases h⟩
  rcases h with h | h
  ·rw [decide_eq_false (by omega), Bool.and_false]
  ·rw [Bool.not_eq_true'] at h
   rw [h]; rfl
 ·rw [if_neg h]
  simp only [Bool.or_eq_true, decide_eq_true_eq, not_or, Bool.not_eq_true', Bool.not_eq_false] at h
  rw [h.2, Bool.true_and]
  have h1 := ih s.f3 (m + 1) (by omega)
  cases hr : (countL d s.f3 (m + 1)).1 with
  | false =>
   simp only [hr]
   refine ⟨?_, fun h => by rw [if_neg (by simp)] at h; rw [hr] at h; cases h⟩
   rw [if_neg (by simp), hr]
   have := h1.1
   rw [hr] at this
   cases hf : formT d s.f3 with
   | false => rfl
   | true =>
    rw [hf, Bool.true_and] at this
    have := of_decide_eq_false this.symm
    rw [decide_eq_false (by omega), Bool.and_false]
  | true =>
   simp only [hr, if_true]
   have h2 := h1.2 hr
   have h3 := h1.1
   rw [hr] at h3
   have h4 := Bool.and_eq_true_iff.1 h3.symm
   have h5 := of_decide_eq_true h4.2
   have h6 := ih s.f4 (countL d s.f3 (m + 1)).2 (by rw [h2]; omega)
   rw [h4.1, Bool.true_and]
   rw [h2] at h6 ⊢
   rw [show m + ((1 + manyT d s.f3 + manyT d s.f4 : Nat) : Int) = m + 1 + (manyT d s.f3 : Int) + (manyT d s.f4 : Int) by omega]
   exact h6
theorem count_law (d : Nat) : ∀ (l : List ISt) (m : Int), m ≤ 16 → CntR (countL d l m) (formT d l) (m + manyT d l) := by
 induction d with
 | zero =>
  intro l m hm
  cases l with
  | nil => exact ⟨by show true = (true && decide (m + 0 ≤ 16)); rw [decide_eq_true (by omega)]; rfl, fun _ => by show m = m + 0; omega⟩
  | cons a l => exact ⟨rfl, fun h => by cases h⟩
 | succ d ih =>
  intro l
  induction l with
  | nil => intro m hm; exact ⟨by show true = (true && decide (m + 0 ≤ 16)); rw [decide_eq_true (by omega)]; rfl, fun _ => by show m = m + 0; omega⟩
  | cons a l ihl =>
   intro m hm
   have hs := step_law d ih a m hm
   rw [countL_succ, List.foldl_cons]
   have hf : formT (d + 1) (a :: l) = (stepOk d a && formT (d + 1) l) := rfl
   have hn : ((manyT (d + 1) (a :: l) : Nat) : Int) = (stepN d a : Int) + (manyT (d + 1) l : Int) := by
    have : manyT (d + 1) (a :: l) = stepN d a + manyT (d + 1) l := by
     rw [manyT, manyT, stepN, List.map_cons, List.sum_cons, List.length_cons]; omega
    omega
   rw [hf, hn]
   simp only [if_true]
   obtain ⟨r, hr⟩ : ∃ r, r = cntStep d a m := ⟨_, rfl⟩
   rw [← hr] at hs ⊢
   obtain ⟨b, n⟩ := r
   cases b with
   | false =>
    rw [cnt_stop]
    refine ⟨?_, fun h => by cases h⟩
    have h1 : false = (stepOk d a && decide (m + stepN d a ≤ 16)) := hs.1
    cases ha : stepOk d a with
    | false => rfl
    | true =>
     rw [ha, Bool.true_and] at h1
     have := of_decide_eq_false h1.symm
     rw [decide_eq_false (by omega), Bool.and_false]
   | true =>
    have h1 : true = (stepOk d a && decide (m + stepN d a ≤ 16)) := hs.1
    have h2 : n = m + stepN d a := hs.2 rfl
    have h4 := Bool.and_eq_true_iff.1 h1.symm
    have h5 := of_decide_eq_true h4.2
    have h6 := ihl n (by omega)
    rw [countL_succ] at h6
    rw [h4.1, Bool.true_and]
    rw [h2] at h6 ⊢
    rw [← Int.add_assoc]
    exact h6
/-- StmtsOk, StmtsMany: what they say. -/
theorem stOk_is (l : List ISt) : (countL 4 l 0).1 = (formT 4 l && decide (manyT 4 l ≤ 16)) := by
 rw [(count_law 4 l 0 (by omega)).1]
 congr 1
 by_cases h : manyT 4 l ≤ 16
 ·rw [decide_eq_true (by omega), decide_eq_true h]
 ·rw [decide_eq_false (by omega), decide_eq_false h]
end Go.Proofs.Ytddnijmgipffeaa.B
