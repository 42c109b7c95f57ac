/- What is reckoned of two and of one: plain facts. -/
import Derived.Test.YtiofkhfmdophpaaOfSpec
namespace Go.Proofs.Ytiofkhfmdophpaa.B
open Go.RowKit Go.Proofs.YtiofkhfmdophpaaW.PrintWords Go.Proofs.YtiofkhfmdophpaaW.PrintLast Go.Proofs.YtiofkhfmdophpaaW.PrintMore
set_option linter.unusedVariables false

def okE (e : Ex) : Bool := formS 6 e && decide (manyS 6 e ≤ 14)
theorem ofV_eq (e : Ex) (l0 l1 l2 : List Int) : ofV e l0 l1 l2 = if memOkL l0 l1 l2 && okE e then evalI (l0 ++ l1 ++ l2) e else 0 := by rw [ofV, okL_eq]; rfl
def cutL (n : Int) : Int := if n < -1000000 then -1000000 else if 1000000 < n then 1000000 else n
theorem cutI (n : Int) : impl_NumCut.f n = some (cutL n) := by rw [← cut_eq, numCut_is]; rfl
theorem cutL_in (n : Int) : -1000000 ≤ cutL n ∧ cutL n ≤ 1000000 := by
 unfold cutL
 split
 ·omega
 ·split <;> omega
theorem cutL_id {n : Int} (h : -1000000 ≤ n ∧ n ≤ 1000000) : cutL n = n := by
 unfold cutL
 rw [if_neg (by omega), if_neg (by omega)]
theorem wrap_in {n : Int} (h : -9223372036854775808 ≤ n ∧ n ≤ 9223372036854775807) : wrap64 n = n := wrap_small h.1 h.2
theorem mul_in (a b : Int) (ha : -1000000 ≤ a ∧ a ≤ 1000000) (hb : -1000000 ≤ b ∧ b ≤ 1000000) : -1000000000000 ≤ a * b ∧ a * b ≤ 1000000000000 := by
 have h1 : (a * b).natAbs ≤ 1000000 * 1000000 := by rw [Int.natAbs_mul]; exact Nat.mul_le_mul (by omega) (by omega)
 omega
theorem add_is (a b : Int) : impl_NumAdd.f a b = some (cutL (cutL a + cutL b)) := by
 have ha := cutL_in a
 have hb := cutL_in b
 rw [impl_NumAdd.f, impl_maker_of.f, cutI, cutI]
 simp only [Option.bind_some, if_pos]
 rw [wrap_in (by omega), cutI]; rfl
theorem sub_is (a b : Int) : impl_NumSub.f a b = some (cutL (cutL a - cutL b)) := by
 have ha := cutL_in a
 have hb := cutL_in b
 rw [impl_NumSub.f, impl_maker_of.f, cutI, cutI]
 simp only [Option.bind_some]
 rw [if_neg (by decide), if_pos trivial, wrap_in (by omega), cutI]; rfl
theorem mul_is (a b : Int) : impl_NumMul.f a b = some (cutL (cutL a * cutL b)) := by
 have hm := mul_in _ _ (cutL_in a) (cutL_in b)
 rw [impl_NumMul.f, impl_maker_of.f, cutI, cutI]
 simp only [Option.bind_some]
 rw [if_neg (by decide), if_neg (by decide), wrap_in (by omega), cutI]; rfl
def isL (b : Bool) : Int := if b then 1 else 0
theorem numIs_is (b : Bool) : impl_NumIs.f b = some (isL b) := by cases b <;> rfl
theorem numOn_is (n : Int) : impl_NumOn.f n = some (n != 0) := rfl
theorem two3 (a b : Int) : twoI 3 a b = cutL (cutL a + cutL b) := by
 have h := two_some 3 a b
 rw [impl_two.f, if_pos rfl, add_is] at h
 exact (Option.some.inj h).symm
theorem two4 (a b : Int) : twoI 4 a b = cutL (cutL a - cutL b) := by
 have h := two_some 4 a b
 rw [impl_two.f, if_neg (by decide), if_pos rfl, sub_is] at h
 exact (Option.some.inj h).symm
theorem two5 (a b : Int) : twoI 5 a b = cutL (cutL a * cutL b) := by
 have h := two_some 5 a b
 rw [impl_two.f, if_neg (by decide), if_neg (by decide), if_pos rfl, mul_is] at h
 exact (Option.some.inj h).symm
theorem two6 (a b : Int) : twoI 6 a b = isL (decide (a < b)) := by
 have h := two_some 6 a b
 rw [impl_two.f, if_neg (by decide), if_neg (by decide), if_neg (by decide), if_pos rfl, numIs_is] at h
 exact (Option.some.inj h).symm
theorem two7 (a b : Int) : twoI 7 a b = isL (a == b) := by
 have h := two_some 7 a b
 rw [impl_two.f, if_neg (by decide), if_neg (by decide), if_neg (by decide), if_neg (by decide), if_pos rfl, numIs_is] at h
 exact (Option.some.inj h).symm
theorem two8 (a b : Int) : twoI 8 a b = isL (a != 0 && b != 0) := by
 have h := two_some 8 a b
 rw [impl_two.f, if_neg (by decide), if_neg (by decide), if_neg (by decide), if_neg (by decide), if_neg (by decide), if_pos rfl, numOn_is, numOn_is] at h
 simp only [Option.bind_some, numIs_is] at h
 cases ha : (a != 0) <;> rw [ha] at h <;> simp at h <;> rw [← h] <;> rfl
theorem two9 (a b : Int) : twoI 9 a b = isL (a != 0 || b != 0) := by
 have h := two_some 9 a b
 rw [impl_two.f, if_neg (by decide), if_neg (by decide), if_neg (by decide), if_neg (by decide), if_neg (by decide), if_neg (by decide), numOn_is, numOn_is] at h
 simp only [Option.bind_some, numIs_is] at h
 cases ha : (a != 0) <;> rw [ha] at h <;> simp at h <;> rw [← h] <;> rfl

def n2 (k : Int) (a b : Ex) : Ex := ⟨k, 0, ⟨0, 0⟩, [a, b]⟩
def n1 (a : Ex) : Ex := ⟨10, 0, ⟨0, 0⟩, [a]⟩
theorem eval_n2 (bs : List Int) (k : Int) (h : 3 ≤ k ∧ k ≤ 9) (a b : Ex) : evalI bs (n2 k a b) = twoI k (evalI bs a) (evalI bs b) := by
 rw [evalI_eq, n2]
 simp only
 rw [if_neg (by omega), if_neg (by omega), if_neg (by omega)]; rfl
theorem eval_n1 (bs : List Int) (a : Ex) : evalI bs (n1 a) = isL (evalI bs a == 0) := by
 rw [evalI_eq, n1]
 simp only
 rw [if_neg (by decide), if_neg (by decide), if_pos trivial]
 simp [isL]
theorem head_n2 (k : Int) (h : 3 ≤ k ∧ k ≤ 9) (a b : Ex) : headOk (n2 k a b) = true := by
 have h1 : kindOk k = true := decide_eq_true (by omega)
 have h2 : kidsN k = 2 := by unfold kidsN; rw [if_neg (by omega), if_pos (by omega)]
 have h3 : shapeL k 0 0 0 = true := by unfold shapeL; rw [if_neg (by omega), if_neg (by omega)]; rfl
 unfold headOk n2
 simp only
 rw [h1, h2, h3]; rfl
theorem head_n1 (a : Ex) : headOk (n1 a) = true := by unfold headOk n1; rfl
theorem form_n2 (d : Nat) (k : Int) (h : 3 ≤ k ∧ k ≤ 9) (a b : Ex) : formS (d + 1) (n2 k a b) = (formS d a && formS d b) := by
 rw [formS, head_n2 k h]; simp [n2]
theorem form_n1 (d : Nat) (a : Ex) : formS (d + 1) (n1 a) = formS d a := by rw [formS, head_n1]; simp [n1]
theorem many_n2 (d : Nat) (k : Int) (a b : Ex) : manyS (d + 1) (n2 k a b) = 1 + (manyS d a + manyS d b) := by rw [manyS]; simp [n2]
theorem many_n1 (d : Nat) (a : Ex) : manyS (d + 1) (n1 a) = 1 + manyS d a := by rw [manyS]; simp [n1]
theorem form_up (d : Nat) : ∀ e : Ex, formS d e = true → formS (d + 1) e = true := by
 induction d with
 | zero => intro e h; cases h
 | succ d ih =>
  intro e h
  rw [formS, Bool.and_eq_true, List.all_eq_true] at h ⊢
  exact ⟨h.1, fun x hx => ih x (h.2 x hx)⟩
theorem many_up (d : Nat) : ∀ e : Ex, formS d e = true → manyS (d + 1) e = manyS d e := by
 induction d with
 | zero => intro e h; cases h
 | succ d ih =>
  intro e h
  rw [formS, Bool.and_eq_true, List.all_eq_true] at h
  rw [manyS, manyS]
  have : e.f3.map (manyS (d + 1)) = e.f3.map (manyS d) := List.map_congr_left (fun x hx => ih x (h.2 x hx))
  rw [this]
theorem form_to {d n : Nat} (h : d ≤ n) (e : Ex) (hf : formS d e = true) : formS n e = true := by
 obtain ⟨m, rfl⟩ : ∃ m, n = d + m := ⟨n - d, by omega⟩
 clear h
 induction m with
 | zero => exact hf
 | succ m ih => exact form_up _ e ih
theorem many_to {d n : Nat} (h : d ≤ n) (e : Ex) (hf : formS d e = true) : manyS n e = manyS d e := by
 obtain ⟨m, rfl⟩ : ∃ m, n = d + m := ⟨n - d, by omega⟩
 clear h
 induction m with
 | zero => rfl
 | succ m ih => rw [← ih]; exact many_up _ e (form_to (Nat.le_add_right d m) e hf)
theorem okE_iff (e : Ex) : okE e = true ↔ formS 6 e = true ∧ manyS 6 e ≤ 14 := by unfold okE; rw [Bool.and_eq_true, decide_eq_true_eq]
theorem okE_n2 (k : Int) (h : 3 ≤ k ∧ k ≤ 9) (a b : Ex) : okE (n2 k a b) = true ↔ (formS 5 a = true ∧ formS 5 b = true) ∧ 1 + (manyS 5 a + manyS 5 b) ≤ 14 := by
 rw [okE_iff, form_n2 5 k h, many_n2, Bool.and_eq_true]
theorem okE_n1 (a : Ex) : okE (n1 a) = true ↔ formS 5 a = true ∧ 1 + manyS 5 a ≤ 14 := by rw [okE_iff, form_n1, many_n1]
theorem le_sum_mem : ∀ {l : List Nat} {a : Nat}, a ∈ l → a ≤ l.sum
 | x :: l, a, h => by
  rcases List.mem_cons.1 h with rfl | h
  ·simp
  ·have := le_sum_mem h; simp; omega
theorem okE_kid {e x : Ex} (h : okE e = true) (hx : x ∈ e.f3) : okE x = true := by
 rw [okE_iff] at h ⊢
 obtain ⟨hf, hm⟩ := h
 rw [formS, Bool.and_eq_true, List.all_eq_true] at hf
 have hk := hf.2 x hx
 refine ⟨form_up 5 x hk, ?_⟩
 rw [many_up 5 x hk]
 rw [manyS] at hm
 have : manyS 5 x ≤ (e.f3.map (manyS 5)).sum := le_sum_mem (List.mem_map_of_mem hx)
 omega
theorem okE_sub {d : Nat} (hd : d ≤ 6) {a : Ex} (hf : formS d a = true) (hm : manyS d a ≤ 14) : okE a = true := (okE_iff a).2 ⟨form_to hd a hf, by rw [many_to hd a hf]; exact hm⟩

/-- What is reckoned is within its bounds. -/
theorem evalI_in (bs : List Int) (hb : ∀ x ∈ bs, -1000000 ≤ x ∧ x ≤ 1000000) (d : Nat) : ∀ e : Ex, formS d e = true → -1000000 ≤ evalI bs e ∧ evalI bs e ≤ 1000000 := by
 intro e hf
 cases d with
 | zero => cases hf
 | succ d =>
  rw [formS, Bool.and_eq_true] at hf
  have hh := hf.1
  unfold headOk at hh
  rw [Bool.and_eq_true, Bool.and_eq_true] at hh
  obtain ⟨⟨hk, _⟩, hs⟩ := hh
  have hk' : 1 ≤ e.f0 ∧ e.f0 ≤ 10 := of_decide_eq_true hk
  rw [evalI_eq]
  have hil : ∀ b : Bool, -1000000 ≤ isL b ∧ isL b ≤ 1000000 := fun b => by cases b <;> decide
  split
  ·next h1 =>
   rw [shapeL, if_pos h1, Bool.and_eq_true] at hs
   exact of_decide_eq_true hs.1
  ·split
   ·unfold getL
    split
    ·rw [List.getD_eq_getElem?_getD]
     cases hg : bs[((e.f2.f0 - 1) * 6 + e.f2.f1).toNat]? with
     | none => exact ⟨by decide, by decide⟩
     | some y => exact hb y (List.mem_of_getElem? hg)
    ·omega
   ·split
    ·split <;> omega
    ·have : e.f0 = 3 ∨ e.f0 = 4 ∨ e.f0 = 5 ∨ e.f0 = 6 ∨ e.f0 = 7 ∨ e.f0 = 8 ∨ e.f0 = 9 := by omega
     rcases this with h | h | h | h | h | h | h <;> rw [h]
     ·rw [two3]; exact cutL_in _
     ·rw [two4]; exact cutL_in _
     ·rw [two5]; exact cutL_in _
     ·rw [two6]; exact hil _
     ·rw [two7]; exact hil _
     ·rw [two8]; exact hil _
     ·rw [two9]; exact hil _
theorem listOk_in {l : List Int} (h : listOk l = true) : ∀ x ∈ l, -1000000 ≤ x ∧ x ≤ 1000000 := by
 unfold listOk at h
 rw [Bool.and_eq_true, Bool.not_eq_true', List.any_eq_false] at h
 intro x hx
 have := h.2 x hx
 simp only [Bool.not_eq_true, Bool.not_eq_false'] at this
 exact of_decide_eq_true this
theorem memOk_in {l0 l1 l2 : List Int} (h : memOkL l0 l1 l2 = true) : ∀ x ∈ l0 ++ l1 ++ l2, -1000000 ≤ x ∧ x ≤ 1000000 := by
 unfold memOkL at h
 rw [Bool.and_eq_true, Bool.and_eq_true] at h
 intro x hx
 rw [List.mem_append, List.mem_append] at hx
 rcases hx with (hx | hx) | hx
 ·exact listOk_in h.1 x hx
 ·exact listOk_in h.2.1 x hx
 ·exact listOk_in h.2.2 x hx
theorem ofV_in (e : Ex) (l0 l1 l2 : List Int) : -1000000 ≤ ofV e l0 l1 l2 ∧ ofV e l0 l1 l2 ≤ 1000000 := by
 rw [ofV_eq]
 split
 ·next h =>
  rw [Bool.and_eq_true, okE_iff] at h
  exact evalI_in _ (memOk_in h.1) 6 e h.2.1
 ·omega
end Go.Proofs.Ytiofkhfmdophpaa.B
