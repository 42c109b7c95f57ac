/- Plain law: the specification's own reckoning of ExprOf ends, and says so. -/
import Derived.Test.YtacbbpbopmdpeaaExprOf
import Derived.Test.YtacbbpbopmdpeaaOkSpec
import Derived.Test.YtacbbpbopmdpeaaPkC
namespace Go.Proofs.Ytacbbpbopmdpeaa.B
open Go.RowKit Go.Proofs.YtacbbpbopmdpeaaW.PrintWords Go.Proofs.YtacbbpbopmdpeaaW.PrintLast Go.Proofs.YtacbbpbopmdpeaaW.PrintMore
set_option linter.unusedVariables false

theorem cut_eq (n : Int) : spec_NumCut.f n = impl_NumCut.f n := by
 rw [numCut_is, impl_NumCut.f]
 congr 1
 unfold mn mx
 by_cases h1 : n < -1000000
 ·simp [h1]
 ·by_cases h2 : (1000000 : Int) < n
  ·simp [h1, h2]
  ·simp [h1, h2]
theorem two_eq (k a b : Int) : spec_l3Two.f k a b = some (twoI k a b) := by
 rw [← two_some]
 unfold spec_l3Two.f impl_two.f spec_NumAdd.f spec_NumSub.f spec_NumMul.f impl_NumAdd.f impl_NumSub.f impl_NumMul.f impl_maker_of.f spec_NumIs.f spec_NumOn.f impl_NumIs.f impl_NumOn.f
 simp [cut_eq]
theorem get_eq (l0 l1 l2 : List Int) (h0 : l0.length = 6) (h1 : l1.length = 6) (h2 : l2.length = 6) (k a : Int) (h : addrOkL k a = true) : spec_l2Get.f l0 l1 l2 k a = some (getL (l0 ++ l1 ++ l2) k a) := by
 obtain ⟨hk, ha⟩ := addr_cases h
 rw [getL, if_pos h]
 obtain ⟨x0, x1, x2, x3, x4, x5, rfl⟩ := six l0 h0
 obtain ⟨y0, y1, y2, y3, y4, y5, rfl⟩ := six l1 h1
 obtain ⟨z0, z1, z2, z3, z4, z5, rfl⟩ := six l2 h2
 rcases hk with rfl | rfl | rfl <;> rcases ha with rfl | rfl | rfl | rfl | rfl | rfl <;> rfl
theorem mono_o (a b c d : Int) (l : List Ex) (l0 l1 l2 : List Int) : ∀ k, LeO (spec_l3Of.f k a b c d l l0 l1 l2) (spec_l3Of.f (k + 1) a b c d l l0 l1 l2) := fun k => spec_l3Of.mono_l k a b c d l l0 l1 l2
theorem of_spec (l0 l1 l2 : List Int) (h0 : l0.length = 6) (h1 : l1.length = 6) (h2 : l2.length = 6) (d : Nat) : ∀ e : Ex, formS d e = true → ∃ k, spec_l3Of.f k e.f0 e.f1 e.f2.f0 e.f2.f1 e.f3 l0 l1 l2 = some (evalI (l0 ++ l1 ++ l2) e) := by
 induction d with
 | zero => intro e h; cases h
 | succ d ih =>
  intro e h
  rw [formS, Bool.and_eq_true] at h
  have hkids : ∀ x ∈ e.f3, _ := fun x hx => ih x (List.all_eq_true.1 h.2 x hx)
  have hh := h.1
  unfold headOk at hh
  simp only [Bool.and_eq_true, beq_iff_eq] at hh
  obtain ⟨⟨hk, hl⟩, hs⟩ := hh
  have hk' : 1 ≤ e.f0 ∧ e.f0 ≤ 10 := of_decide_eq_true hk
  by_cases c1 : e.f0 = 1
  ·exact ⟨1, by rw [spec_l3Of.f, if_pos c1, evalI_eq, if_pos c1]⟩
  ·by_cases c2 : e.f0 = 2
   ·have ha : addrOkL e.f2.f0 e.f2.f1 = true := by
     rw [shapeL, if_neg c1, if_pos c2, Bool.and_eq_true] at hs; exact hs.1
    exact ⟨1, by rw [spec_l3Of.f, if_neg c1, if_pos c2, get_eq l0 l1 l2 h0 h1 h2 _ _ ha, evalI_eq, if_neg c1, if_pos c2]; rfl⟩
   ·by_cases c10 : e.f0 = 10
    ·have hl' : e.f3.length = 1 := by
      rw [kidsN, if_neg (by omega), if_neg (by omega)] at hl; omega
     obtain ⟨k, hk0⟩ := hkids e.f3[0] (List.getElem_mem (by omega))
     refine ⟨k + 1, ?_⟩
     have hr : rd_T27 e.f3 0 = e.f3[0] := rd_get e.f3 0 (by omega)
     have hv : (e.f3.map (evalI (l0 ++ l1 ++ l2))).getD 0 0 = evalI (l0 ++ l1 ++ l2) e.f3[0] := by
      rw [List.getD_eq_getElem?_getD, List.getElem?_map, List.getElem?_eq_getElem (by omega)]; rfl
     rw [spec_l3Of.f, if_neg c1, if_neg c2, if_pos c10, if_pos (by omega), hr, hk0, evalI_eq _ e, if_neg c1, if_neg c2, if_pos c10, hv]
     by_cases hz : evalI (l0 ++ l1 ++ l2) e.f3[0] = 0
     ·rw [hz]; rfl
     ·rw [if_neg hz]
      simp only [Option.bind_some, spec_NumOn.f, spec_NumIs.f, show (evalI (l0 ++ l1 ++ l2) e.f3[0] != 0) = true from bne_iff_ne.mpr hz, Bool.not_true, Bool.false_eq_true, if_false]
    ·have h39 : 3 ≤ e.f0 ∧ e.f0 ≤ 9 := by omega
     have hl' : e.f3.length = 2 := by
      rw [kidsN, if_neg (by omega), if_pos h39] at hl; omega
     obtain ⟨k0, hk0⟩ := hkids e.f3[0] (List.getElem_mem (by omega))
     obtain ⟨k1, hk1⟩ := hkids e.f3[1] (List.getElem_mem (by omega))
     refine ⟨k0 + k1 + 1, ?_⟩
     have hr0 : rd_T27 e.f3 0 = e.f3[0] := rd_get e.f3 0 (by omega)
     have hr1 : rd_T27 e.f3 1 = e.f3[1] := rd_get e.f3 1 (by omega)
     have hv0 : (e.f3.map (evalI (l0 ++ l1 ++ l2))).getD 0 0 = evalI (l0 ++ l1 ++ l2) e.f3[0] := by
      rw [List.getD_eq_getElem?_getD, List.getElem?_map, List.getElem?_eq_getElem (by omega)]; rfl
     have hv1 : (e.f3.map (evalI (l0 ++ l1 ++ l2))).getD 1 0 = evalI (l0 ++ l1 ++ l2) e.f3[1] := by
      rw [List.getD_eq_getElem?_getD, List.getElem?_map, List.getElem?_eq_getElem (by omega)]; rfl
     rw [spec_l3Of.f, if_neg c1, if_neg c2, if_neg c10, if_pos (by omega), hr0, hr1, up_le (mono_o _ _ _ _ _ _ _ _) (Nat.le_add_right k0 k1) hk0, Option.bind_some, if_pos (by omega), up_le (mono_o _ _ _ _ _ _ _ _) (Nat.le_add_left k1 k0) hk1, Option.bind_some, two_eq, evalI_eq _ e, if_neg c1, if_neg c2, if_neg c10, hv0, hv1]
     rfl
theorem mono_l2 (l : List Int) (j : Int) : ∀ k, LeO (spec_l2List.l0 k l j) (spec_l2List.l0 (k + 1) l j) := fun k => spec_l2List.mono_l k l j
theorem list_loop (l : List Int) (hl : l.length < 9223372036854775807) : ∀ (n j : Nat), n + j = l.length → ∃ k, spec_l2List.l0 k l j = some (l.length == 6 && !(l.drop j).any fun n => !isNumL n) := by
 intro n
 induction n with
 | zero =>
  intro j hj
  refine ⟨1, ?_⟩
  rw [spec_l2List.l0, if_neg (by omega), List.drop_eq_nil_of_le (by omega)]
  by_cases h6 : l.length = 6
  ·simp [h6]
  ·have q1 : ((l.length : Int) == 6) = false := beq_false_of_ne (by omega)
   have q2 : (l.length == 6) = false := beq_false_of_ne h6
   rw [q1, q2]; rfl
 | succ n ihn =>
  intro j hj
  have hlt : j < l.length := by omega
  obtain ⟨k2, h2⟩ := ihn (j + 1) (by omega)
  refine ⟨k2 + 1, ?_⟩
  have hr : rd l (j : Int) = l[j] := by simp [rd, hlt]
  rw [spec_l2List.l0, if_pos (by omega), if_pos (by omega), hr, numCut_is, Option.bind_some, wrap_small (by omega) (by omega), List.drop_eq_getElem_cons hlt, List.any_cons]
  by_cases c1 : l[j] < -1000000
  ·have q1 : ¬ (-1000000 : Int) = l[j] := by omega
   have q2 : isNumL l[j] = false := by unfold isNumL; exact decide_eq_false (by omega)
   simp [c1, q1, q2]
  ·by_cases c2 : 1000000 < l[j]
   ·have q1 : ¬ (1000000 : Int) = l[j] := by omega
    have q2 : isNumL l[j] = false := by unfold isNumL; exact decide_eq_false (by omega)
    simp [c1, c2, q1, q2]
   ·have q2 : isNumL l[j] = true := by unfold isNumL; exact decide_eq_true (by omega)
    simp only [c1, c2, if_false, if_true, q2, Bool.not_true, Bool.false_or]
    exact h2
theorem list_spec (l : List Int) (hl : l.length < 9223372036854775807) : ∃ k, spec_l2List.f k l = some (listOk l) := by
 obtain ⟨k, h⟩ := list_loop l hl l.length 0 (by omega)
 exact ⟨k, h⟩
theorem mono_l2f (l : List Int) : ∀ k, LeO (spec_l2List.f k l) (spec_l2List.f (k + 1) l) := fun k => mono_l2 l 0 k
theorem memOk_spec (l0 l1 l2 : List Int) (h0 : l0.length < 9223372036854775807) (h1 : l1.length < 9223372036854775807) (h2 : l2.length < 9223372036854775807) : ∃ k, spec_MemOk.f k l0 l1 l2 = some (memOkL l0 l1 l2) := by
 obtain ⟨k0, e0⟩ := list_spec l0 h0
 obtain ⟨k1, e1⟩ := list_spec l1 h1
 obtain ⟨k2, e2⟩ := list_spec l2 h2
 refine ⟨k0 + k1 + k2, ?_⟩
 unfold spec_MemOk.f memOkL
 rw [up_le (mono_l2f l0) (by omega) e0, up_le (mono_l2f l1) (by omega) e1, up_le (mono_l2f l2) (by omega) e2]
 cases listOk l0 <;> cases listOk l1 <;> simp
theorem exprOf_spec (e : Ex) (he : Short e) (l0 l1 l2 : List Int) (h0 : l0.length < 9223372036854775807) (h1 : l1.length < 9223372036854775807) (h2 : l2.length < 9223372036854775807) : ∃ k, spec_ExprOf.f k e.f0 e.f1 e.f2.f0 e.f2.f1 e.f3 l0 l1 l2 = some (ofV e l0 l1 l2) := by
 obtain ⟨k1, e1⟩ := exprOk_spec e he
 rw [← okL_eq] at e1
 obtain ⟨k2, e2⟩ := memOk_spec l0 l1 l2 h0 h1 h2
 have m1 : ∀ k, k1 ≤ k → spec_ExprOk.f k e.f0 e.f1 e.f2.f0 e.f2.f1 e.f3 = some (okL 0 (partsL e)) := fun k hk => up_le (f := fun k => spec_ExprOk.f k e.f0 e.f1 e.f2.f0 e.f2.f1 e.f3) (fun k => spec_ExprOk.mono _ _ _ _ _ k) hk e1
 have m2 : ∀ k, k2 ≤ k → spec_MemOk.f k l0 l1 l2 = some (memOkL l0 l1 l2) := fun k hk => up_le (f := fun k => spec_MemOk.f k l0 l1 l2) (fun k => spec_MemOk.mono _ _ _ k) hk e2
 unfold ofV
 cases ho : okL 0 (partsL e) with
 | false =>
  rw [ho] at m1
  refine ⟨k1, ?_⟩
  unfold spec_ExprOf.f
  rw [m1 k1 (Nat.le_refl _)]; simp
 | true =>
  cases hm : memOkL l0 l1 l2 with
  | false =>
   rw [ho] at m1
   rw [hm] at m2
   refine ⟨k1 + k2, ?_⟩
   unfold spec_ExprOf.f
   rw [m1 _ (by omega), m2 _ (by omega)]; simp
  | true =>
   have hf : formS 6 e = true := by
    have := ho
    rw [okL_eq, Bool.and_eq_true] at this; exact this.1
   have hms := hm
   unfold memOkL at hms
   simp only [Bool.and_eq_true] at hms
   obtain ⟨k3, e3⟩ := of_spec l0 l1 l2 (listOk_len hms.1) (listOk_len hms.2.1) (listOk_len hms.2.2) 6 e hf
   rw [ho] at m1
   rw [hm] at m2
   refine ⟨k1 + k2 + k3, ?_⟩
   unfold spec_ExprOf.f
   rw [m1 _ (by omega), m2 _ (by omega), up_le (mono_o _ _ _ _ _ _ _ _) (by omega) e3]; simp
end Go.Proofs.Ytacbbpbopmdpeaa.B
