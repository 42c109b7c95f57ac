/- Plain law: the specification's own ExprAlike and ChartSame end, and say what impl's say. -/
import Derived.Test.YtlmchfcfkfegaaaEndsCh
import Derived.Test.YtlmchfcfkfegaaaChSame
import Derived.Test.YtlmchfcfkfegaaaPkB
import Derived.Test.YtlmchfcfkfegaaaPkC
namespace Go.Proofs.Ytlmchfcfkfegaaa.B
open Go.RowKit Go.Proofs.YtlmchfcfkfegaaaW.PrintWords Go.Proofs.YtlmchfcfkfegaaaW.PrintLast Go.Proofs.YtlmchfcfkfegaaaW.PrintMore
set_option linter.unusedVariables false

theorem and_part {f g : Nat → Option Bool} {a b : Bool} (hf : Ends f a) (hg : Ends g b) : Ends (fun k => (f k).bind fun t => if t = true then g k else some false) (a && b) := by
 refine hf.bind (g := fun k t => if t = true then g k else some false) ?_
 cases a with
 | false => exact Ends.const fun k => rfl
 | true => exact hg.of fun k => by rw [if_pos rfl]
theorem next_in {n j : Nat} (hn : n ≤ 9223372036854775807) (hj : j < n) : wrap64 ((j : Int) + 1) = ((j + 1 : Nat) : Int) := by rw [wrap_in (by omega) (by omega)]; omega
theorem zip_range {α : Type} {rd : List α → Int → α} (hrd : ∀ (l : List α) (j : Nat) (h : j < l.length), rd l (j : Int) = l[j]) (p : α → α → Bool) (l m : List α) (h : l.length = m.length) : ((l.zip m).all fun x => p x.1 x.2) = (List.range l.length).all fun j => p (rd l (j : Int)) (rd m (j : Int)) := by
 rw [Bool.eq_iff_iff, List.all_eq_true, List.all_eq_true]
 constructor
 ·intro hz j hj
  have hj' : j < l.length := List.mem_range.1 hj
  rw [hrd l j hj', hrd m j (by omega)]
  exact hz (l[j], m[j]'(by omega)) (by rw [← List.getElem_zip (h := by simp; omega)]; exact List.getElem_mem _)
 ·rintro hz ⟨a, b⟩ hx
  obtain ⟨j, hj, he⟩ := List.getElem_of_mem hx
  rw [List.getElem_zip] at he
  rw [List.length_zip] at hj
  have hj1 : j < l.length := by omega
  have hj2 : j < m.length := by omega
  have := hz j (List.mem_range.2 hj1)
  rw [hrd l j hj1, hrd m j hj2] at this
  cases he
  exact this
theorem l2Ints_is (l m : List Int) (hl : l.length ≤ 9223372036854775807) : Ends (fun k => spec_l2Ints.f k l m) (eqR rd (fun a b => a == b) l m) := by
 unfold eqR
 by_cases h : l.length = m.length
 ·rw [show (l.length == m.length) = true from beq_iff_eq.2 h, Bool.true_and]
  have := all_loop (L := fun k j => spec_l2Ints.l0 k l m j) (p := fun j => rd l j == rd m j) (b := true) l.length (Ends.succ (fun k => by rw [spec_l2Ints.l0, if_neg (by omega)]) (Ends.const fun k => rfl)) (fun j r hj hr => ?_)
  ·rw [Bool.and_true] at this
   exact this.of fun k => by rw [spec_l2Ints.f, if_pos (by omega)]
  ·cases he : (rd l (j : Int) == rd m (j : Int)) with
   | true => exact Ends.succ (fun k => by rw [spec_l2Ints.l0, if_pos (by omega), if_pos (by omega), if_pos (by omega), if_pos (beq_iff_eq.1 he), next_in hl hj]) (by rw [Bool.true_and]; exact hr)
   | false => exact Ends.succ (g := fun _ => some false) (fun k => by rw [spec_l2Ints.l0, if_pos (by omega), if_pos (by omega), if_pos (by omega), if_neg (by simpa using he)]) (Ends.const fun k => rfl)
 ·rw [show (l.length == m.length) = false from beq_false_of_ne h, Bool.false_and]
  exact Ends.const fun k => by rw [spec_l2Ints.f, if_neg (by omega)]
def alike' (k : Nat) (x y : S50) : Option Bool := spec_ExprAlike.f k x.f0 x.f1 x.f2.f0 x.f2.f1 x.f3 y.f0 y.f1 y.f2.f0 y.f2.f1 y.f3
theorem alike_is (x : S50) : iexOk x → ∀ y, Ends (fun k => alike' k x y) (alikeL x y) := by
 refine iexInd (P := fun x => iexOk x → ∀ y, Ends (fun k => alike' k x y) (alikeL x y)) ?_ x
 intro x ih ho y
 rw [iexOk_eq] at ho
 have hj1 : Ends (fun k => spec_ExprAlike.j0 k true x.f0 x.f1 x.f2.f0 x.f2.f1 x.f3 y.f0 y.f1 y.f2.f0 y.f2.f1 y.f3) false := Ends.succ (fun k => by rw [spec_ExprAlike.j0, if_pos rfl]) (Ends.const fun k => rfl)
 rw [alikeL_eq]
 by_cases h0 : x.f0 = y.f0
 rotate_left
 ·rw [show (x.f0 == y.f0) = false from beq_false_of_ne h0, Bool.false_and]
  exact Ends.succ (fun k => by rw [alike', spec_ExprAlike.f, if_neg h0]) hj1
 by_cases h1 : x.f1 = y.f1
 rotate_left
 ·rw [show (x.f1 == y.f1) = false from beq_false_of_ne h1, Bool.false_and, Bool.and_false]
  exact Ends.succ (fun k => by rw [alike', spec_ExprAlike.f, if_pos h0, if_neg h1]) hj1
 rw [show (x.f0 == y.f0) = true from beq_iff_eq.2 h0, show (x.f1 == y.f1) = true from beq_iff_eq.2 h1, Bool.true_and, Bool.true_and]
 cases h2 : (x.f2.f0 == y.f2.f0 && (x.f2.f1 == y.f2.f1)) with
 | false =>
  rw [Bool.false_and]
  refine Ends.succ (fun k => ?_) hj1
  rw [alike', spec_ExprAlike.f, if_pos h0, if_pos h1, if_pos (by revert h2; cases x.f2.f0 == y.f2.f0 <;> cases x.f2.f1 == y.f2.f1 <;> decide)]
 | true =>
  rw [Bool.true_and, eqLEx]
  have h2' : ¬ (!(x.f2.f0 == y.f2.f0) || (!(x.f2.f1 == y.f2.f1))) = true := by revert h2; cases x.f2.f0 == y.f2.f0 <;> cases x.f2.f1 == y.f2.f1 <;> decide
  by_cases h3 : x.f3.length = y.f3.length
  ·rw [show (x.f3.length == y.f3.length) = true from beq_iff_eq.2 h3, Bool.true_and, zip_range rdI_ex alikeL _ _ h3]
   have := all_loop (L := fun k j => spec_ExprAlike.l0 k j x.f0 x.f1 x.f2.f0 x.f2.f1 x.f3 y.f0 y.f1 y.f2.f0 y.f2.f1 y.f3) (p := fun j => alikeL (rd_T50 x.f3 j) (rd_T50 y.f3 j)) (b := true) x.f3.length (Ends.succ (fun k => by rw [spec_ExprAlike.l0, if_neg (by omega)]) (Ends.const fun k => rfl)) (fun j r hj hr => ?_)
   ·rw [Bool.and_true] at this
    refine Ends.succ (fun k => ?_) (Ends.succ (f := fun k => spec_ExprAlike.j0 k false x.f0 x.f1 x.f2.f0 x.f2.f1 x.f3 y.f0 y.f1 y.f2.f0 y.f2.f1 y.f3) (fun k => by rw [spec_ExprAlike.j0, if_neg (by simp)]) this)
    rw [alike', spec_ExprAlike.f, if_pos h0, if_pos h1, if_neg h2', show ((x.f3.length : Int) != (y.f3.length : Int)) = false by rw [h3]; simp]
   ·have hx := ih (rd_T50 x.f3 j) (by rw [rdI_ex _ _ hj]; exact List.getElem_mem _) (by rw [rdI_ex _ _ hj]; exact ho.2 _ (List.getElem_mem _)) (rd_T50 y.f3 j)
    refine Ends.succ (fun k => ?_) (and_part hx hr)
    rw [spec_ExprAlike.l0, if_pos (by omega), if_pos (by omega), if_pos (by omega), next_in (n := x.f3.length) (by omega) hj]
    rfl
  ·rw [show (x.f3.length == y.f3.length) = false from beq_false_of_ne h3, Bool.false_and]
   refine Ends.succ (fun k => ?_) hj1
   rw [alike', spec_ExprAlike.f, if_pos h0, if_pos h1, if_neg h2', show ((x.f3.length : Int) != (y.f3.length : Int)) = true by rw [bne_iff_ne]; omega]
theorem chSame_is (s : Int) (l : List ITr) (m : List IAc) (s' : Int) (l' : List ITr) (m' : List IAc) (h : chOk l m) : Ends (fun k => spec_ChartSame.f k s l m s' l' m') (chSameL s l m s' l' m') := by
 have hj1 : Ends (fun k => spec_ChartSame.j0 k true s l m s' l' m') false := Ends.succ (fun k => by rw [spec_ChartSame.j0, if_pos rfl]) (Ends.const fun k => rfl)
 unfold chSameL
 by_cases h0 : s = s'
 rotate_left
 ·rw [show (s == s') = false from beq_false_of_ne h0, Bool.false_and]
  exact hj1.of fun k => by rw [spec_ChartSame.f, if_neg h0]
 rw [show (s == s') = true from beq_iff_eq.2 h0, Bool.true_and, eqLTr]
 by_cases h1 : l.length = l'.length
 rotate_left
 ·rw [show (l.length == l'.length) = false from beq_false_of_ne h1, Bool.false_and, Bool.false_and]
  exact hj1.of fun k => by rw [spec_ChartSame.f, if_pos h0, if_neg (by omega)]
 rw [show (l.length == l'.length) = true from beq_iff_eq.2 h1, Bool.true_and, eqR]
 by_cases h2 : m.length = m'.length
 rotate_left
 ·rw [show (m.length == m'.length) = false from beq_false_of_ne h2, Bool.false_and, Bool.and_false]
  exact hj1.of fun k => by rw [spec_ChartSame.f, if_pos h0, if_pos (by omega), show ((m.length : Int) != (m'.length : Int)) = true by rw [bne_iff_ne]; omega]
 rw [show (m.length == m'.length) = true from beq_iff_eq.2 h2, Bool.true_and, zip_range rdI_tr trSameL _ _ h1]
 have hacts := all_loop (L := fun k j => spec_ChartSame.l1 k j s l m s' l' m') (p := fun j => acSameL (rd_T92 m j) (rd_T92 m' j)) (b := true) m.length (Ends.succ (fun k => by rw [spec_ChartSame.l1, if_neg (by omega)]) (Ends.const fun k => rfl)) (fun j r hj hr => ?_)
 ·rw [Bool.and_true] at hacts
  have := all_loop (L := fun k j => spec_ChartSame.l0 k j s l m s' l' m') (p := fun j => trSameL (rd_T52 l j) (rd_T52 l' j)) l.length (Ends.succ (fun k => by rw [spec_ChartSame.l0, if_neg (by omega)]) hacts) (fun j r hj hr => ?_)
  ·refine Ends.of (Ends.succ (f := fun k => spec_ChartSame.j0 k false s l m s' l' m') (fun k => by rw [spec_ChartSame.j0, if_neg (by simp)]) this) (fun k => ?_)
   rw [spec_ChartSame.f, if_pos h0, if_pos (by omega), show ((m.length : Int) != (m'.length : Int)) = false by rw [h2]; simp]
  ·have ho := h.1.2 (rd_T52 l j) (by rw [rdI_tr _ _ hj]; exact List.getElem_mem _)
   rw [trSameL, Bool.and_assoc, Bool.and_assoc]
   refine Ends.succ (fun k => ?_) (and_part (l2Ints_is (rd_T52 l j).f0 (rd_T52 l' j).f0 (by have := ho.1; omega)) (and_part (l2Ints_is (rd_T52 l j).f1 (rd_T52 l' j).f1 (by have := ho.2.1; omega)) (and_part (alike_is (rd_T52 l j).f2 ho.2.2 (rd_T52 l' j).f2) hr)))
   rw [spec_ChartSame.l0, if_pos (by omega), if_pos (by omega), if_pos (by omega), next_in (n := l.length) (by have := h.1.1; omega) hj]
   rfl
 ·have hw := next_in (n := m.length) (by have := h.2; omega) hj
  cases he : acSameL (rd_T92 m (j : Int)) (rd_T92 m' (j : Int)) with
  | true => exact Ends.succ (fun k => by rw [spec_ChartSame.l1, if_pos (by omega), if_pos (by omega), if_pos (by omega), if_neg (by rw [acSameL] at he; simpa [Bool.and_assoc] using he), hw]) (by rw [Bool.true_and]; exact hr)
  | false => exact Ends.succ (g := fun _ => some false) (fun k => by rw [spec_ChartSame.l1, if_pos (by omega), if_pos (by omega), if_pos (by omega), if_pos (by rw [acSameL] at he; revert he; cases (rd_T92 m (j : Int)).f0 == (rd_T92 m' (j : Int)).f0 <;> cases (rd_T92 m (j : Int)).f1 == (rd_T92 m' (j : Int)).f1 <;> cases (rd_T92 m (j : Int)).f2.f0 == (rd_T92 m' (j : Int)).f2.f0 <;> cases (rd_T92 m (j : Int)).f2.f1 == (rd_T92 m' (j : Int)).f2.f1 <;> decide)]) (Ends.const fun k => rfl)
end Go.Proofs.Ytlmchfcfkfegaaa.B
