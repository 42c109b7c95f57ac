import Derived.Test.YtendbgedpjcocaaGreatDoorJnE
import Derived.Test.YtendbgedpjcocaaGreatDoorJnG
import Derived.Test.YtendbgedpjcocaaGreatDoorPkA
import Derived.Test.YtendbgedpjcocaaGreatDoorPkB
/- Plain law: the specification's own reckoning of StmtsOk and StmtsMany ends, and says what count says. -/
namespace Go.Proofs.YtendbgedpjcocaaGreatDoor.B
open Go.RowKit Go.Proofs.YtendbgedpjcocaaGreatDoorW.PrintWords Go.Proofs.YtendbgedpjcocaaGreatDoorW.PrintLast Go.Proofs.YtendbgedpjcocaaGreatDoorW.PrintMore
set_option linter.unusedVariables false

theorem Ends.of_up {α : Type} {f : Nat → Option α} {r : α} (hm : ∀ k, LeO (f k) (f (k + 1))) (h : ∃ k, f k = some r) : Ends f r := by
 obtain ⟨k, hk⟩ := h
 exact ⟨k, fun k' hk' => up_le hm hk' hk⟩
theorem and_part {f g : Nat → Option Bool} {a b : Bool} (hf : Ends f a) (hg : a = true → Ends g b) : Ends (fun k => (f k).bind fun t => if t = true then g k else some false) (a && b) := by
 refine hf.bind (g := fun k t => if t = true then g k else some false) ?_
 cases a with
 | false => exact Ends.const fun k => rfl
 | true => exact (hg rfl).of fun k => by rw [if_pos rfl]
/-- How many statements there are, up to so deep. -/
def manyT : Nat → List ISt → Nat
 | 0, l => l.length
 | d + 1, l => l.length + (l.map fun s => manyT d s.f3 + manyT d s.f4).sum
def formT : Nat → List ISt → Bool
 | 0, l => l.isEmpty
 | d + 1, l => l.all fun s => headSt s && (formT d s.f3 && formT d s.f4)
theorem many0_stop (k : Nat) (l : List ISt) (hl : l.length ≤ 9223372036854775807) : spec_l4Many.f (k + 3) l 0 = some (l.length : Int) := by
 rw [spec_l4Many.f, spec_l4Many.l0]
 by_cases h : (0 : Int) < (l.length : Int)
 ·rw [if_pos h, decide_eq_false (by omega), spec_l4Many.j1, if_neg (by simp)]
 ·rw [if_neg h, spec_l4Many.j1, if_neg (by simp)]
theorem many_loopT (d : Nat) (hd : d ≤ 100) (l : List ISt) (hl : l.length ≤ 1048576) (ih : ∀ s ∈ l, manyT d s.f3 + manyT d s.f4 ≤ 1048576 → Ends (fun k => spec_l4Many.f k s.f3 (d : Int)) (manyT d s.f3 : Int) ∧ Ends (fun k => spec_l4Many.f k s.f4 (d : Int)) (manyT d s.f4 : Int)) :
  ∀ (e j : Nat) (n : Nat), j + e = l.length → n + ((l.drop j).map fun s => manyT d s.f3 + manyT d s.f4).sum ≤ 1048576 → Ends (fun k => spec_l4Many.l0 k l ((d + 1 : Nat) : Int) (n : Int) j) ((n + ((l.drop j).map fun s => manyT d s.f3 + manyT d s.f4).sum : Nat) : Int) := by
 intro e
 induction e with
 | zero =>
  intro j n hj hn
  refine Ends.succ (fun k => by rw [spec_l4Many.l0, if_neg (by omega)]) ?_
  refine Ends.succ (fun k => by rw [spec_l4Many.j1, if_neg (by simp)]) (Ends.const fun k => ?_)
  rw [List.drop_of_length_le (by omega)]; simp
 | succ e ihe =>
  intro j n hj hn
  have hjl : j < l.length := by omega
  have hdr : l.drop j = l[j] :: l.drop (j + 1) := List.drop_eq_getElem_cons hjl
  rw [hdr, List.map_cons, List.sum_cons] at hn ⊢
  refine Ends.succ (fun k => by rw [spec_l4Many.l0, if_pos (by omega), decide_eq_true (by omega)]) ?_
  refine Ends.succ (fun k => by rw [spec_l4Many.j1, if_pos rfl, if_pos (by omega), if_pos (by omega), rdI_st l j hjl, show wrap64 (((d + 1 : Nat) : Int) - 1) = (d : Int) by rw [wrap_in (by omega) (by omega)]; omega]) ?_
  obtain ⟨h3, h4⟩ := ih l[j] (List.getElem_mem hjl) (by omega)
  refine Ends.bind h3 (Ends.bind h4 ?_)
  have := ihe (j + 1) (n + (manyT d l[j].f3 + manyT d l[j].f4)) (by omega) (by omega)
  rw [Nat.add_assoc] at this
  refine this.of fun k => ?_
  rw [show wrap64 ((n : Int) + (manyT d l[j].f3 : Int)) = (n : Int) + (manyT d l[j].f3 : Int) from wrap_in (by omega) (by omega), show wrap64 ((n : Int) + (manyT d l[j].f3 : Int) + (manyT d l[j].f4 : Int)) = (n : Int) + (manyT d l[j].f3 : Int) + (manyT d l[j].f4 : Int) from wrap_in (by omega) (by omega), show wrap64 ((j : Int) + 1) = ((j + 1 : Nat) : Int) by rw [wrap_in (by omega) (by omega)]; omega]
  congr 1
  omega
theorem manyT_spec (d : Nat) : d ≤ 100 → ∀ l : List ISt, manyT d l ≤ 1048576 → Ends (fun k => spec_l4Many.f k l (d : Int)) (manyT d l : Int) := by
 induction d with
 | zero =>
  intro _ l hl
  rw [manyT] at *
  exact ⟨3, fun k hk => by obtain ⟨k', rfl⟩ : ∃ k', k = k' + 3 := ⟨k - 3, by omega⟩; exact many0_stop k' l (by omega)⟩
 | succ d ih =>
  intro hd l hl
  rw [manyT] at hl ⊢
  refine Ends.succ (fun k => by rw [spec_l4Many.f]) ?_
  have := many_loopT d (by omega) l (by omega) (fun s hs h => ⟨ih (by omega) s.f3 (by omega), ih (by omega) s.f4 (by omega)⟩) l.length 0 l.length (by omega) (by rw [List.drop_zero]; exact hl)
  rw [List.drop_zero] at this
  exact this
/-- One round of l4Form. -/
theorem form_headT (k : Nat) (l : List ISt) (x1 : Int) (j : Nat) (hj : j < l.length) : spec_l4Form.l0 (k + 1) l x1 (j : Int) = spec_l4Form.j2 k l x1 j (plainL l[j]) l[j].f0 l[j].f1.f0 l[j].f1.f1 l[j].f2.f0 l[j].f2.f1 l[j].f2.f2.f0 l[j].f2.f2.f1 l[j].f2.f3 l[j].f3 l[j].f4 := by
 rw [spec_l4Form.l0, if_pos (by omega), if_pos (by omega), rdI_st l j hj]
 generalize l[j] = s
 have hlen3 : ((s.f3.length : Int) == 0) = (s.f3.length == 0) := by rw [Bool.eq_iff_iff, beq_iff_eq, beq_iff_eq]; omega
 have hlen4 : ((s.f4.length : Int) == 0) = (s.f4.length == 0) := by rw [Bool.eq_iff_iff, beq_iff_eq, beq_iff_eq]; omega
 unfold plainL putsL
 simp only [addrOk_is, Option.bind_some]
 by_cases h1 : s.f0 = 1
 ·rw [if_pos h1, if_pos h1]
  cases ha : addrOkL s.f1.f0 s.f1.f1 with
  | false => rw [if_neg (by simp)]; simp
  | true =>
   rw [if_pos rfl]
   by_cases h2 : s.f1.f0 = 1
   ·rw [if_pos h2, h2]; simp
   ·rw [if_neg h2]
    by_cases h3 : s.f3.length = 0
    ·rw [if_pos (by omega), hlen4, h3, show (s.f1.f0 != 1) = true from bne_iff_ne.mpr h2]; simp
    ·rw [if_neg (by omega), show (s.f3.length == 0) = false from beq_false_of_ne h3]; simp
 ·rw [if_neg h1, if_neg h1]
  by_cases h2 : s.f0 = 2
  ·rw [if_pos h2, if_pos h2]
  ·rw [if_neg h2, if_neg h2]
   by_cases h3 : s.f0 = 3
   ·rw [if_pos h3, if_pos h3]
    cases hz : (s.f1.f0 == 0 && s.f1.f1 == 0) with
    | false => simp
    | true => simp [hlen4]
   ·rw [if_neg h3, if_neg h3]
theorem form_loopT (d : Nat) (hd : d ≤ 100) (l : List ISt) (hl : l.length ≤ 1048576) (hs : ∀ s ∈ l, Short s.f2) (ih : ∀ s ∈ l, Ends (fun k => spec_l4Form.f k s.f3 (d : Int)) (formT d s.f3) ∧ Ends (fun k => spec_l4Form.f k s.f4 (d : Int)) (formT d s.f4)) :
  ∀ (e j : Nat), j + e = l.length → Ends (fun k => spec_l4Form.l0 k l ((d + 1 : Nat) : Int) j) ((l.drop j).all fun s => headSt s && (formT d s.f3 && formT d s.f4)) := by
 intro e
 induction e with
 | zero =>
  intro j hj
  refine Ends.succ (fun k => by rw [spec_l4Form.l0, if_neg (by omega)]) (Ends.const fun k => ?_)
  rw [List.drop_of_length_le (by omega)]; rfl
 | succ e ihe =>
  intro j hj
  have hjl : j < l.length := by omega
  have hdr : l.drop j = l[j] :: l.drop (j + 1) := List.drop_eq_getElem_cons hjl
  rw [hdr, List.all_cons]
  refine Ends.succ (fun k => form_headT k l _ j hjl) ?_
  obtain ⟨h3, h4⟩ := ih l[j] (List.getElem_mem hjl)
  refine Ends.succ (fun k => by rw [spec_l4Form.j2, show wrap64 (((d + 1 : Nat) : Int) - 1) = (d : Int) by rw [wrap_in (by omega) (by omega)]; omega, show wrap64 ((j : Int) + 1) = ((j + 1 : Nat) : Int) by rw [wrap_in (by omega) (by omega)]; omega]) ?_
  cases hp : plainL l[j] with
  | false =>
   refine Ends.const fun k => ?_
   rw [if_neg (by simp), headSt, hp]; simp
  | true =>
   have hx := Ends.of_up (f := fun k => spec_ExprOk.f k l[j].f2.f0 l[j].f2.f1 l[j].f2.f2.f0 l[j].f2.f2.f1 l[j].f2.f3) (fun k => spec_ExprOk.mono _ _ _ _ _ k) (exprOk_spec l[j].f2 (hs l[j] (List.getElem_mem hjl)))
   rw [headSt, hp, Bool.true_and, okL_eq, Bool.and_assoc, Bool.and_assoc]
   rw [show (formS 6 l[j].f2 && (decide (manyS 6 l[j].f2 ≤ 14) && (formT d l[j].f3 && formT d l[j].f4 && (l.drop (j + 1)).all fun s => headSt s && (formT d s.f3 && formT d s.f4)))) = ((formS 6 l[j].f2 && decide (manyS 6 l[j].f2 ≤ 14)) && (formT d l[j].f3 && (formT d l[j].f4 && (l.drop (j + 1)).all fun s => headSt s && (formT d s.f3 && formT d s.f4)))) by simp only [Bool.and_assoc]]
   refine (and_part hx fun _ => and_part h3 fun _ => and_part h4 fun _ => ihe (j + 1) (by omega)).of fun k => ?_
   rw [if_pos rfl]
theorem formT_spec (d : Nat) : d ≤ 100 → ∀ l : List ISt, manyT d l ≤ 1048576 → (∀ s ∈ l, istOk s) → (∀ s : ISt, istOk s → Short s.f2) → Ends (fun k => spec_l4Form.f k l (d : Int)) (formT d l) := by
 induction d with
 | zero =>
  intro _ l hl ho hsh
  refine Ends.succ (fun k => by rw [spec_l4Form.f]) ?_
  cases l with
  | nil => exact ⟨2, fun k hk => by obtain ⟨k', rfl⟩ : ∃ k', k = k' + 2 := ⟨k - 2, by omega⟩; show (if (([] : List ISt).length : Int) > 0 then _ else spec_l4Form.j0 (k' + 2) [] 0 false) = _; rw [if_neg (by simp), spec_l4Form.j0, if_neg (by simp), spec_l4Form.l0, if_neg (by simp)]; rfl⟩
  | cons a l => exact ⟨1, fun k hk => by obtain ⟨k', rfl⟩ : ∃ k', k = k' + 1 := ⟨k - 1, by omega⟩; show (if ((a :: l).length : Int) > 0 then spec_l4Form.j0 (k' + 1) (a :: l) 0 (decide ((0 : Int) < 1)) else _) = _; rw [if_pos (by simp), spec_l4Form.j0, if_pos (by simp)]; rfl⟩
 | succ d ih =>
  intro hd l hl ho hsh
  have hkid : ∀ s ∈ l, manyT d s.f3 + manyT d s.f4 ≤ 1048576 := fun s hs => by
   have : manyT d s.f3 + manyT d s.f4 ≤ (l.map fun s => manyT d s.f3 + manyT d s.f4).sum := mem_sum _ _ (List.mem_map_of_mem (f := fun s => manyT d s.f3 + manyT d s.f4) hs)
   rw [manyT] at hl
   omega
  have hll : l.length ≤ 1048576 := by rw [manyT] at hl; omega
  have hlo := form_loopT d (by omega) l hll (fun s hs => hsh s (ho s hs)) (fun s hs => ⟨ih (by omega) s.f3 (by have := hkid s hs; omega) ((istOk_eq s).1 (ho s hs)).2.1.2 hsh, ih (by omega) s.f4 (by have := hkid s hs; omega) ((istOk_eq s).1 (ho s hs)).2.2.2 hsh⟩) l.length 0 (by omega)
  rw [List.drop_zero] at hlo
  rw [formT]
  refine Ends.succ (g := fun k => spec_l4Form.j0 k l ((d + 1 : Nat) : Int) false) (fun k => ?_) (Ends.succ (fun k => by rw [spec_l4Form.j0, if_neg (by simp)]; rfl) hlo)
  rw [spec_l4Form.f]
  by_cases h : (l.length : Int) > 0
  ·rw [if_pos h, decide_eq_false (by omega)]
  ·rw [if_neg h]
end Go.Proofs.YtendbgedpjcocaaGreatDoor.B
/- Plain law: the specification's own reckoning of ExprOf ends, and says so. -/
namespace Go.Proofs.YtendbgedpjcocaaGreatDoor.B
open Go.RowKit Go.Proofs.YtendbgedpjcocaaGreatDoorW.PrintWords Go.Proofs.YtendbgedpjcocaaGreatDoorW.PrintLast Go.Proofs.YtendbgedpjcocaaGreatDoorW.PrintMore
set_option linter.unusedVariables false

theorem cut_eq (n : Int) : spec_NumCut.f n = impl_NumCut.f n := by
 rw [numCut_is, impl_NumCut.f]
 congr 1
 unfold mn mx
 by_cases h1 : n < -1000000
 ·simp [h1]
 ·by_cases h2 : (1000000 : Int) < n
  ·simp [h1, h2]
  ·simp [h1, h2]
theorem two_eq (k a b : Int) : spec_l3Two.f k a b = some (twoI k a b) := by
 rw [← two_some]
 unfold spec_l3Two.f impl_two.f spec_NumAdd.f spec_NumSub.f spec_NumMul.f impl_NumAdd.f impl_NumSub.f impl_NumMul.f impl_maker_of.f spec_NumIs.f spec_NumOn.f impl_NumIs.f impl_NumOn.f
 simp [cut_eq]
theorem get_eq (l0 l1 l2 : List Int) (h0 : l0.length = 6) (h1 : l1.length = 6) (h2 : l2.length = 6) (k a : Int) (h : addrOkL k a = true) : spec_l2Get.f l0 l1 l2 k a = some (getL (l0 ++ l1 ++ l2) k a) := by
 obtain ⟨hk, ha⟩ := addr_cases h
 rw [getL, if_pos h]
 obtain ⟨x0, x1, x2, x3, x4, x5, rfl⟩ := six l0 h0
 obtain ⟨y0, y1, y2, y3, y4, y5, rfl⟩ := six l1 h1
 obtain ⟨z0, z1, z2, z3, z4, z5, rfl⟩ := six l2 h2
 rcases hk with rfl | rfl | rfl <;> rcases ha with rfl | rfl | rfl | rfl | rfl | rfl <;> rfl
theorem mono_o (a b c d : Int) (l : List Ex) (l0 l1 l2 : List Int) : ∀ k, LeO (spec_l3Of.f k a b c d l l0 l1 l2) (spec_l3Of.f (k + 1) a b c d l l0 l1 l2) := fun k => spec_l3Of.mono_l k a b c d l l0 l1 l2
theorem of_spec (l0 l1 l2 : List Int) (h0 : l0.length = 6) (h1 : l1.length = 6) (h2 : l2.length = 6) (d : Nat) : ∀ e : Ex, formS d e = true → ∃ k, spec_l3Of.f k e.f0 e.f1 e.f2.f0 e.f2.f1 e.f3 l0 l1 l2 = some (evalI (l0 ++ l1 ++ l2) e) := by
 induction d with
 | zero => intro e h; cases h
 | succ d ih =>
  intro e h
  rw [formS, Bool.and_eq_true] at h
  have hkids : ∀ x ∈ e.f3, _ := fun x hx => ih x (List.all_eq_true.1 h.2 x hx)
  have hh := h.1
  unfold headOk at hh
  simp only [Bool.and_eq_true, beq_iff_eq] at hh
  obtain ⟨⟨hk, hl⟩, hs⟩ := hh
  have hk' : 1 ≤ e.f0 ∧ e.f0 ≤ 10 := of_decide_eq_true hk
  by_cases c1 : e.f0 = 1
  ·exact ⟨1, by rw [spec_l3Of.f, if_pos c1, evalI_eq, if_pos c1]⟩
  ·by_cases c2 : e.f0 = 2
   ·have ha : addrOkL e.f2.f0 e.f2.f1 = true := by
     rw [shapeL, if_neg c1, if_pos c2, Bool.and_eq_true] at hs; exact hs.1
    exact ⟨1, by rw [spec_l3Of.f, if_neg c1, if_pos c2, get_eq l0 l1 l2 h0 h1 h2 _ _ ha, evalI_eq, if_neg c1, if_pos c2]; rfl⟩
   ·by_cases c10 : e.f0 = 10
    ·have hl' : e.f3.length = 1 := by
      rw [kidsN, if_neg (by omega), if_neg (by omega)] at hl; omega
     obtain ⟨k, hk0⟩ := hkids e.f3[0] (List.getElem_mem (by omega))
     refine ⟨k + 1, ?_⟩
     have hr : rd_T27 e.f3 0 = e.f3[0] := rd_get e.f3 0 (by omega)
     have hv : (e.f3.map (evalI (l0 ++ l1 ++ l2))).getD 0 0 = evalI (l0 ++ l1 ++ l2) e.f3[0] := by
      rw [List.getD_eq_getElem?_getD, List.getElem?_map, List.getElem?_eq_getElem (by omega)]; rfl
     rw [spec_l3Of.f, if_neg c1, if_neg c2, if_pos c10, if_pos (by omega), hr, hk0, evalI_eq _ e, if_neg c1, if_neg c2, if_pos c10, hv]
     by_cases hz : evalI (l0 ++ l1 ++ l2) e.f3[0] = 0
     ·rw [hz]; rfl
     ·rw [if_neg hz]
      simp only [Option.bind_some, spec_NumOn.f, spec_NumIs.f, show (evalI (l0 ++ l1 ++ l2) e.f3[0] != 0) = true from bne_iff_ne.mpr hz, Bool.not_true, Bool.false_eq_true, if_false]
    ·have h39 : 3 ≤ e.f0 ∧ e.f0 ≤ 9 := by omega
     have hl' : e.f3.length = 2 := by
      rw [kidsN, if_neg (by omega), if_pos h39] at hl; omega
     obtain ⟨k0, hk0⟩ := hkids e.f3[0] (List.getElem_mem (by omega))
     obtain ⟨k1, hk1⟩ := hkids e.f3[1] (List.getElem_mem (by omega))
     refine ⟨k0 + k1 + 1, ?_⟩
     have hr0 : rd_T27 e.f3 0 = e.f3[0] := rd_get e.f3 0 (by omega)
     have hr1 : rd_T27 e.f3 1 = e.f3[1] := rd_get e.f3 1 (by omega)
     have hv0 : (e.f3.map (evalI (l0 ++ l1 ++ l2))).getD 0 0 = evalI (l0 ++ l1 ++ l2) e.f3[0] := by
      rw [List.getD_eq_getElem?_getD, List.getElem?_map, List.getElem?_eq_getElem (by omega)]; rfl
     have hv1 : (e.f3.map (evalI (l0 ++ l1 ++ l2))).getD 1 0 = evalI (l0 ++ l1 ++ l2) e.f3[1] := by
      rw [List.getD_eq_getElem?_getD, List.getElem?_map, List.getElem?_eq_getElem (by omega)]; rfl
     rw [spec_l3Of.f, if_neg c1, if_neg c2, if_neg c10, if_pos (by omega), hr0, hr1, up_le (mono_o _ _ _ _ _ _ _ _) (Nat.le_add_right k0 k1) hk0, Option.bind_some, if_pos (by omega), up_le (mono_o _ _ _ _ _ _ _ _) (Nat.le_add_left k1 k0) hk1, Option.bind_some, two_eq, evalI_eq _ e, if_neg c1, if_neg c2, if_neg c10, hv0, hv1]
     rfl
theorem mono_l2 (l : List Int) (j : Int) : ∀ k, LeO (spec_l2List.l0 k l j) (spec_l2List.l0 (k + 1) l j) := fun k => spec_l2List.mono_l k l j
theorem list_loop (l : List Int) (hl : l.length < 9223372036854775807) : ∀ (n j : Nat), n + j = l.length → ∃ k, spec_l2List.l0 k l j = some (l.length == 6 && !(l.drop j).any fun n => !isNumL n) := by
 intro n
 induction n with
 | zero =>
  intro j hj
  refine ⟨1, ?_⟩
  rw [spec_l2List.l0, if_neg (by omega), List.drop_eq_nil_of_le (by omega)]
  by_cases h6 : l.length = 6
  ·simp [h6]
  ·have q1 : ((l.length : Int) == 6) = false := beq_false_of_ne (by omega)
   have q2 : (l.length == 6) = false := beq_false_of_ne h6
   rw [q1, q2]; rfl
 | succ n ihn =>
  intro j hj
  have hlt : j < l.length := by omega
  obtain ⟨k2, h2⟩ := ihn (j + 1) (by omega)
  refine ⟨k2 + 1, ?_⟩
  have hr : rd l (j : Int) = l[j] := by simp [rd, hlt]
  rw [spec_l2List.l0, if_pos (by omega), if_pos (by omega), hr, numCut_is, Option.bind_some, wrap_small (by omega) (by omega), List.drop_eq_getElem_cons hlt, List.any_cons]
  by_cases c1 : l[j] < -1000000
  ·have q1 : ¬ (-1000000 : Int) = l[j] := by omega
   have q2 : isNumL l[j] = false := by unfold isNumL; exact decide_eq_false (by omega)
   simp [c1, q1, q2]
  ·by_cases c2 : 1000000 < l[j]
   ·have q1 : ¬ (1000000 : Int) = l[j] := by omega
    have q2 : isNumL l[j] = false := by unfold isNumL; exact decide_eq_false (by omega)
    simp [c1, c2, q1, q2]
   ·have q2 : isNumL l[j] = true := by unfold isNumL; exact decide_eq_true (by omega)
    simp only [c1, c2, if_false, if_true, q2, Bool.not_true, Bool.false_or]
    exact h2
theorem list_spec (l : List Int) (hl : l.length < 9223372036854775807) : ∃ k, spec_l2List.f k l = some (listOk l) := by
 obtain ⟨k, h⟩ := list_loop l hl l.length 0 (by omega)
 exact ⟨k, h⟩
theorem mono_l2f (l : List Int) : ∀ k, LeO (spec_l2List.f k l) (spec_l2List.f (k + 1) l) := fun k => mono_l2 l 0 k
theorem memOk_spec (l0 l1 l2 : List Int) (h0 : l0.length < 9223372036854775807) (h1 : l1.length < 9223372036854775807) (h2 : l2.length < 9223372036854775807) : ∃ k, spec_MemOk.f k l0 l1 l2 = some (memOkL l0 l1 l2) := by
 obtain ⟨k0, e0⟩ := list_spec l0 h0
 obtain ⟨k1, e1⟩ := list_spec l1 h1
 obtain ⟨k2, e2⟩ := list_spec l2 h2
 refine ⟨k0 + k1 + k2, ?_⟩
 unfold spec_MemOk.f memOkL
 rw [up_le (mono_l2f l0) (by omega) e0, up_le (mono_l2f l1) (by omega) e1, up_le (mono_l2f l2) (by omega) e2]
 cases listOk l0 <;> cases listOk l1 <;> simp
end Go.Proofs.YtendbgedpjcocaaGreatDoor.B
/- A drawn region whose last operation, or last two, behind all others, do whatever they do (append, store, a call that writes). -/
namespace Go.Proofs.YtendbgedpjcocaaGreatDoor.B
open Go Go.RowKit

section
variable {P : Program} {ops : Array Oper} {Q : Exit → Act → World → Prop} {md : Region.Mode}
/-- What stands before the operations of L, as far as n steps reach. -/
def reachW (ops : Array Oper) : Nat → List Nat → List Nat
 | 0, L => L
 | n + 1, L => reachW ops n (L ++ L.flatMap fun i => match ops[i]? with | some o => waitsOn o | none => []).eraseDups
theorem reachW_all {l : Nat → Bool} (hd : ∀ (i : Nat) (o : Oper), ops[i]? = some o → l i = true → ∀ j ∈ waitsOn o, l j = true) : ∀ (n : Nat) (L : List Nat), (∀ j ∈ L, l j = true) → ∀ j ∈ reachW ops n L, l j = true := by
 intro n
 induction n with
 | zero => exact fun _ h => h
 | succ n ih =>
  intro L h
  refine ih _ fun j hj => ?_
  rw [List.mem_eraseDups, List.mem_append] at hj
  rcases hj with hj | hj
  ·exact h j hj
  ·obtain ⟨i, hi, hji⟩ := List.mem_flatMap.1 hj
   cases ho : ops[i]? with
   | none => rw [ho] at hji; cases hji
   | some o => rw [ho] at hji; exact hd i o ho (h i hi) j hji
/-- A drawn region that makes memory, and whose last operation, behind all others, does whatever it does. -/
theorem weaveLast_ {id : Nat} {a0 : Act} {w : World} (m : Nat) (hm1 : ops.size = m + 1) (p : World → Prop) (hp : Lasts p) (h0 : p w) (ds : List (Tmp × Nat)) (Fs : List (Value → World → Prop)) (hm : P.follows .mixedOrders = true) (hB : weaveB ops ds = true) (hF : LastAll Fs)
  (hall : (match ops[m]? with | some o => (List.range m).all fun j => (reachW ops m (waitsOn o)).contains j | none => false) = true)
  (hwait : ((List.range m).all fun i => match ops[i]? with | some o => (waitsOn o).all fun j => decide (j < m) | none => true) = true)
  (hstep : OpsAll (fun i o => i < m → ∀ vs W, p W → (∀ j ∈ waitsOn o, FAt Fs j (vs j) W) → ∀ b, Sees a0 ds o vs b → StepOK P ops o b W fun v W' => Below W.heap.size W W' ∧ FAt Fs i v W') ops.toList 0)
  (Ψ : Value → World → Prop) (hlast : ∀ o, ops[m]? = some o → ∀ vs W, p W → (∀ j, j < m → FAt Fs j (vs j) W) → ∀ b, Sees a0 ds o vs b → StepOK P ops o b W Ψ)
  (hend : ∀ (vs : Nat → Value) W, Ψ (vs m) W → Q .normal (putL a0 (ds.map fun q => (q.1, vs q.2))) W) : (Code.region id ops true).wp P Q a0 w := by
 refine weave (fun l vs W => (∀ (i : Nat) (o : Oper), ops[i]? = some o → l i = true → ∀ j ∈ waitsOn o, l j = true) ∧ (l m = false → p W ∧ ∀ j, j < m → l j = true → FAt Fs j (vs j) W) ∧ (l m = true → Ψ (vs m) W)) ds hm hB ?_ ?_ ?_
 ·exact ⟨(fun _ _ _ h => absurd h (by simp)), (fun _ => ⟨hp _ _ (drew_below w) h0, (fun _ _ h => absurd h (by simp))⟩), (fun h => absurd h (by simp))⟩
 ·intro i o ho l vs W ⟨hc, hI, _⟩ hli hw b hsee
  have hlt := (Array.getElem?_eq_some_iff.1 ho).1
  obtain ⟨om, hom⟩ : ∃ o, ops[m]? = some o := ⟨ops[m], by simp [show m < ops.size by omega]⟩
  have hbelow : (∀ j ∈ waitsOn om, l j = true) → ∀ j, j < m → l j = true := fun hh j hj => by
   rw [hom] at hall
   exact reachW_all hc m _ hh j (by simpa using List.all_eq_true.1 hall j (List.mem_range.2 hj))
  have hdc : ∀ (i' : Nat) (o' : Oper), ops[i']? = some o' → (i' == i || l i') = true → ∀ j ∈ waitsOn o', (j == i || l j) = true := by
   intro i' o' ho' hh j hj
   by_cases hii : i' = i
   ·subst hii
    have : o' = o := Option.some.inj (ho'.symm.trans ho)
    subst this
    simp [hw j hj]
   ·have : l i' = true := by simpa [hii] using hh
    simp [hc i' o' ho' this j hj]
  by_cases hin : i < m
  ·have hlm : l m = false := by
    cases hq : l m with
    | false => rfl
    | true => rw [hbelow (hc m om hom hq) i hin] at hli; cases hli
   obtain ⟨h1, h2⟩ := hI hlm
   have hst := OpsAll.at ops.toList 0 hstep i o (by rw [Array.getElem?_toList]; exact ho)
   rw [Nat.zero_add] at hst
   have hmi : (m == i) = false := by simp; omega
   intro K Q' hK
   refine hst hin vs W h1 (fun j hj => ?_) b hsee K Q' fun v W' hv => hK v W' ⟨hdc, fun _ => ⟨hp _ _ hv.1 h1, fun j hj hlj => ?_⟩, fun hh => by simp [hmi, hlm] at hh⟩
   ·have hjm : j < m := by
     have := List.all_eq_true.1 hwait i (List.mem_range.2 hin)
     rw [ho] at this
     simpa using List.all_eq_true.1 this j hj
    exact h2 j hjm (hw j hj)
   ·by_cases hji : j = i
    ·subst hji
     simpa using hv.2
    ·simp only [hji, if_false]
     exact FAt.last Fs hF j _ _ _ hv.1 (h2 j hj (by simpa [hji] using hlj))
  ·have him : i = m := by omega
   subst him
   obtain ⟨h1, h2⟩ := hI hli
   have : o = om := Option.some.inj (ho.symm.trans hom)
   subst this
   have hl := hbelow hw
   intro K Q' hK
   exact hlast o ho vs W h1 (fun j hj => h2 j hj (hl j hj)) b hsee K Q' fun v W' hv => hK v W' ⟨hdc, fun hh => by simp at hh, fun _ => by simpa using hv⟩
 ·intro l vs W hl hI
  exact hend vs W (hI.2.2 (hl m (by omega)))
/-- A drawn region that makes memory, and whose last two operations, behind all others, do whatever they do, one behind the other. -/
theorem weaveTail_ {id : Nat} {a0 : Act} {w : World} (m : Nat) (hm1 : ops.size = m + 2) (p : World → Prop) (hp : Lasts p) (h0 : p w) (ds : List (Tmp × Nat)) (Fs : List (Value → World → Prop)) (hm : P.follows .mixedOrders = true) (hB : weaveB ops ds = true) (hF : LastAll Fs)
  (hall : (match ops[m]? with | some o => (List.range m).all fun j => (reachW ops m (waitsOn o)).contains j | none => false) = true)
  (hall2 : (match ops[m + 1]? with | some o => (waitsOn o).contains m | none => false) = true)
  (hwait : ((List.range m).all fun i => match ops[i]? with | some o => (waitsOn o).all fun j => decide (j < m) | none => true) = true)
  (hstep : OpsAll (fun i o => i < m → ∀ vs W, p W → (∀ j ∈ waitsOn o, FAt Fs j (vs j) W) → ∀ b, Sees a0 ds o vs b → StepOK P ops o b W fun v W' => Below W.heap.size W W' ∧ FAt Fs i v W') ops.toList 0)
  (Ψ Φ : Value → World → Prop) (hlast : ∀ o, ops[m]? = some o → ∀ vs W, p W → (∀ j, j < m → FAt Fs j (vs j) W) → ∀ b, Sees a0 ds o vs b → StepOK P ops o b W Ψ)
  (hlast2 : ∀ o, ops[m + 1]? = some o → ∀ vs W, Ψ (vs m) W → ∀ b, Sees a0 ds o vs b → StepOK P ops o b W Φ)
  (hend : ∀ (vs : Nat → Value) W, Φ (vs (m + 1)) W → Q .normal (putL a0 (ds.map fun q => (q.1, vs q.2))) W) : (Code.region id ops true).wp P Q a0 w := by
 refine weave (fun l vs W => (∀ (i : Nat) (o : Oper), ops[i]? = some o → l i = true → ∀ j ∈ waitsOn o, l j = true) ∧ (l m = false → p W ∧ ∀ j, j < m → l j = true → FAt Fs j (vs j) W) ∧ (l m = true → l (m + 1) = false → Ψ (vs m) W) ∧ (l (m + 1) = true → Φ (vs (m + 1)) W)) ds hm hB ?_ ?_ ?_
 ·exact ⟨(fun _ _ _ h => absurd h (by simp)), (fun _ => ⟨hp _ _ (drew_below w) h0, (fun _ _ h => absurd h (by simp))⟩), (fun h => absurd h (by simp)), (fun h => absurd h (by simp))⟩
 ·intro i o ho l vs W ⟨hc, hI, hJ, _⟩ hli hw b hsee
  have hlt := (Array.getElem?_eq_some_iff.1 ho).1
  have hom : ∃ o, ops[m]? = some o := ⟨ops[m], by simp [show m < ops.size by omega]⟩
  obtain ⟨om, hom⟩ := hom
  have hom1 : ∃ o, ops[m + 1]? = some o := ⟨ops[m + 1], by simp [show m + 1 < ops.size by omega]⟩
  obtain ⟨om1, hom1⟩ := hom1
  have hbelow : (∀ j ∈ waitsOn om, l j = true) → ∀ j, j < m → l j = true := fun hh j hj => by
   rw [hom] at hall
   exact reachW_all hc m _ hh j (by simpa using List.all_eq_true.1 hall j (List.mem_range.2 hj))
  have hm1m : l (m + 1) = true → l m = true := fun hh => hc _ _ hom1 hh m (by rw [hom1] at hall2; simpa using hall2)
  have hdc : ∀ (i' : Nat) (o' : Oper), ops[i']? = some o' → (i' == i || l i') = true → ∀ j ∈ waitsOn o', (j == i || l j) = true := by
   intro i' o' ho' hh j hj
   by_cases hii : i' = i
   ·subst hii
    have : o' = o := Option.some.inj (ho'.symm.trans ho)
    subst this
    simp [hw j hj]
   ·have : l i' = true := by simpa [hii] using hh
    simp [hc i' o' ho' this j hj]
  by_cases hin : i < m
  ·have hlm : l m = false := by
    cases hq : l m with
    | false => rfl
    | true => rw [hbelow (hc m om hom hq) i hin] at hli; cases hli
   have hlm1 : l (m + 1) = false := by
    cases hq : l (m + 1) with
    | false => rfl
    | true => rw [hm1m hq] at hlm; cases hlm
   obtain ⟨h1, h2⟩ := hI hlm
   have hst := OpsAll.at ops.toList 0 hstep i o (by rw [Array.getElem?_toList]; exact ho)
   rw [Nat.zero_add] at hst
   have hmi : (m == i) = false := by simp; omega
   have hmi1 : (m + 1 == i) = false := by simp; omega
   intro K Q' hK
   refine hst hin vs W h1 (fun j hj => ?_) b hsee K Q' fun v W' hv => hK v W' ⟨hdc, fun _ => ⟨hp _ _ hv.1 h1, fun j hj hlj => ?_⟩, fun hh => by simp [hmi, hlm] at hh, fun hh => by simp [hmi1, hlm1] at hh⟩
   ·have hjm : j < m := by
     have := List.all_eq_true.1 hwait i (List.mem_range.2 hin)
     rw [ho] at this
     simpa using List.all_eq_true.1 this j hj
    exact h2 j hjm (hw j hj)
   ·by_cases hji : j = i
    ·subst hji
     simpa using hv.2
    ·simp only [hji, if_false]
     exact FAt.last Fs hF j _ _ _ hv.1 (h2 j hj (by simpa [hji] using hlj))
  ·by_cases him : i = m
   ·subst him
    have hlm1 : l (i + 1) = false := by
     cases hq : l (i + 1) with
     | false => rfl
     | true => rw [hm1m hq] at hli; cases hli
    have : o = om := Option.some.inj (ho.symm.trans hom)
    subst this
    obtain ⟨h1, h2⟩ := hI hli
    intro K Q' hK
    exact hlast o ho vs W h1 (fun j hj => h2 j hj (hbelow hw j hj)) b hsee K Q' fun v W' hv => hK v W' ⟨hdc, fun hh => by simp at hh, fun _ _ => by simpa using hv, fun hh => by simp [hlm1] at hh⟩
   ·have hi1 : i = m + 1 := by omega
    subst hi1
    have : o = om1 := Option.some.inj (ho.symm.trans hom1)
    subst this
    have hlm : l m = true := hw m (by rw [hom1] at hall2; simpa using hall2)
    intro K Q' hK
    refine hlast2 o ho vs W (hJ hlm hli) b hsee K Q' fun v W' hv => hK v W' ⟨hdc, fun hh => by simp [hlm] at hh, fun _ hh => by simp at hh, fun _ => by simpa using hv⟩
 ·intro l vs W hl hI
  exact hend vs W (hI.2.2.2 (hl (m + 1) (by omega)))
/-- A drawn region that makes memory, whose values at S own new memory, each its own, and whose last two operations, behind all others, do whatever they do. -/
theorem weaveFresh_ {id : Nat} {a0 : Act} {w : World} (S : List Nat) (m : Nat) (hS : (S.all fun j => decide (j < m)) = true) (hm1 : ops.size = m + 2) (p : World → Prop) (hp : Lasts p) (h0 : p w) (ds : List (Tmp × Nat)) (Fs : List (Value → World → Prop)) (hm : P.follows .mixedOrders = true) (hB : weaveB ops ds = true) (hF : LastAll Fs)
  (hall : (match ops[m]? with | some o => (List.range m).all fun j => (reachW ops m (waitsOn o)).contains j | none => false) = true)
  (hall2 : (match ops[m + 1]? with | some o => (waitsOn o).contains m | none => false) = true)
  (hwait : ((List.range m).all fun i => match ops[i]? with | some o => (waitsOn o).all fun j => decide (j < m) | none => true) = true)
  (hstep : OpsAll (fun i o => i < m → ∀ vs W, p W → (∀ j ∈ waitsOn o, FAt Fs j (vs j) W) → ∀ b, Sees a0 ds o vs b → StepOK P ops o b W fun v W' => Below W.heap.size W W' ∧ FAt Fs i v W' ∧ (S.contains i = true → ∀ k, v.ownBlock = some k → W.heap.size ≤ k)) ops.toList 0)
  (hltS : ∀ j ∈ S, ∀ v W, FAt Fs j v W → ∀ k, v.ownBlock = some k → k < W.heap.size)
  (Ψ Φ : Value → World → Prop) (hlast : ∀ o, ops[m]? = some o → ∀ vs W, p W → (∀ j, j < m → FAt Fs j (vs j) W) → (∀ i ∈ S, ∀ j ∈ S, i ≠ j → ∀ k, (vs i).ownBlock = some k → (vs j).ownBlock ≠ some k) → ∀ b, Sees a0 ds o vs b → StepOK P ops o b W Ψ)
  (hlast2 : ∀ o, ops[m + 1]? = some o → ∀ vs W, Ψ (vs m) W → ∀ b, Sees a0 ds o vs b → StepOK P ops o b W Φ)
  (hend : ∀ (vs : Nat → Value) W, Φ (vs (m + 1)) W → Q .normal (putL a0 (ds.map fun q => (q.1, vs q.2))) W) : (Code.region id ops true).wp P Q a0 w := by
 refine weave (fun l vs W => (∀ (i : Nat) (o : Oper), ops[i]? = some o → l i = true → ∀ j ∈ waitsOn o, l j = true) ∧ (l m = false → (p W ∧ ∀ j, j < m → l j = true → FAt Fs j (vs j) W) ∧ (∀ i ∈ S, ∀ j ∈ S, i ≠ j → l i = true → l j = true → ∀ k, (vs i).ownBlock = some k → (vs j).ownBlock ≠ some k)) ∧ (l m = true → l (m + 1) = false → Ψ (vs m) W) ∧ (l (m + 1) = true → Φ (vs (m + 1)) W)) ds hm hB ?_ ?_ ?_
 ·exact ⟨(fun _ _ _ h => absurd h (by simp)), (fun _ => ⟨⟨hp _ _ (drew_below w) h0, (fun _ _ h => absurd h (by simp))⟩, fun _ _ _ _ _ h => absurd h (by simp)⟩), (fun h => absurd h (by simp)), (fun h => absurd h (by simp))⟩
 ·intro i o ho l vs W ⟨hc, hI, hJ, _⟩ hli hw b hsee
  have hlt := (Array.getElem?_eq_some_iff.1 ho).1
  have hom : ∃ o, ops[m]? = some o := ⟨ops[m], by simp [show m < ops.size by omega]⟩
  obtain ⟨om, hom⟩ := hom
  have hom1 : ∃ o, ops[m + 1]? = some o := ⟨ops[m + 1], by simp [show m + 1 < ops.size by omega]⟩
  obtain ⟨om1, hom1⟩ := hom1
  have hbelow : (∀ j ∈ waitsOn om, l j = true) → ∀ j, j < m → l j = true := fun hh j hj => by
   rw [hom] at hall
   exact reachW_all hc m _ hh j (by simpa using List.all_eq_true.1 hall j (List.mem_range.2 hj))
  have hm1m : l (m + 1) = true → l m = true := fun hh => hc _ _ hom1 hh m (by rw [hom1] at hall2; simpa using hall2)
  have hdc : ∀ (i' : Nat) (o' : Oper), ops[i']? = some o' → (i' == i || l i') = true → ∀ j ∈ waitsOn o', (j == i || l j) = true := by
   intro i' o' ho' hh j hj
   by_cases hii : i' = i
   ·subst hii
    have : o' = o := Option.some.inj (ho'.symm.trans ho)
    subst this
    simp [hw j hj]
   ·have : l i' = true := by simpa [hii] using hh
    simp [hc i' o' ho' this j hj]
  by_cases hin : i < m
  ·have hlm : l m = false := by
    cases hq : l m with
    | false => rfl
    | true => rw [hbelow (hc m om hom hq) i hin] at hli; cases hli
   have hlm1 : l (m + 1) = false := by
    cases hq : l (m + 1) with
    | false => rfl
    | true => rw [hm1m hq] at hlm; cases hlm
   obtain ⟨⟨h1, h2⟩, hap⟩ := hI hlm
   have hst := OpsAll.at ops.toList 0 hstep i o (by rw [Array.getElem?_toList]; exact ho)
   rw [Nat.zero_add] at hst
   have hmi : (m == i) = false := by simp; omega
   have hmi1 : (m + 1 == i) = false := by simp; omega
   intro K Q' hK
   refine hst hin vs W h1 (fun j hj => ?_) b hsee K Q' fun v W' hv => hK v W' ⟨hdc, fun _ => ⟨⟨hp _ _ hv.1 h1, fun j hj hlj => ?_⟩, fun x hx y hy hxy hlx hly k hk => ?_⟩, fun hh => by simp [hmi, hlm] at hh, fun hh => by simp [hmi1, hlm1] at hh⟩
   ·have hjm : j < m := by
     have := List.all_eq_true.1 hwait i (List.mem_range.2 hin)
     rw [ho] at this
     simpa using List.all_eq_true.1 this j hj
    exact h2 j hjm (hw j hj)
   ·by_cases hji : j = i
    ·subst hji
     simpa using hv.2.1
    ·simp only [hji, if_false]
     exact FAt.last Fs hF j _ _ _ hv.1 (h2 j hj (by simpa [hji] using hlj))
   ·have hxm : x < m := of_decide_eq_true (List.all_eq_true.1 hS x hx)
    have hym : y < m := of_decide_eq_true (List.all_eq_true.1 hS y hy)
    by_cases hxi : x = i
    ·have hyi : y ≠ i := fun e => hxy (hxi.trans e.symm)
     simp only [hxi, if_true] at hk
     simp only [hyi, if_false]
     intro hk'
     have q1 := hv.2.2 (by rw [← hxi]; exact List.contains_iff_mem.2 hx) k hk
     have q2 := hltS y hy _ _ (h2 y hym (by simpa [hyi] using hly)) k hk'
     omega
    ·simp only [hxi, if_false] at hk
     by_cases hyi : y = i
     ·simp only [hyi, if_true]
      intro hk'
      have q1 := hv.2.2 (by rw [← hyi]; exact List.contains_iff_mem.2 hy) k hk'
      have q2 := hltS x hx _ _ (h2 x hxm (by simpa [hxi] using hlx)) k hk
      omega
     ·simp only [hyi, if_false]
      exact hap x hx y hy hxy (by simpa [hxi] using hlx) (by simpa [hyi] using hly) k hk
  ·by_cases him : i = m
   ·subst him
    have hlm1 : l (i + 1) = false := by
     cases hq : l (i + 1) with
     | false => rfl
     | true => rw [hm1m hq] at hli; cases hli
    have : o = om := Option.some.inj (ho.symm.trans hom)
    subst this
    obtain ⟨⟨h1, h2⟩, hap⟩ := hI hli
    intro K Q' hK
    exact hlast o ho vs W h1 (fun j hj => h2 j hj (hbelow hw j hj)) (fun x hx y hy hxy => hap x hx y hy hxy (hbelow hw x (of_decide_eq_true (List.all_eq_true.1 hS x hx))) (hbelow hw y (of_decide_eq_true (List.all_eq_true.1 hS y hy)))) b hsee K Q' fun v W' hv => hK v W' ⟨hdc, fun hh => by simp at hh, fun _ _ => by simpa using hv, fun hh => by simp [hlm1] at hh⟩
   ·have hi1 : i = m + 1 := by omega
    subst hi1
    have : o = om1 := Option.some.inj (ho.symm.trans hom1)
    subst this
    have hlm : l m = true := hw m (by rw [hom1] at hall2; simpa using hall2)
    intro K Q' hK
    refine hlast2 o ho vs W (hJ hlm hli) b hsee K Q' fun v W' hv => hK v W' ⟨hdc, fun hh => by simp [hlm] at hh, fun _ hh => by simp at hh, fun _ => by simpa using hv⟩
 ·intro l vs W hl hI
  exact hend vs W (hI.2.2.2 (hl (m + 1) (by omega)))
end
end Go.Proofs.YtendbgedpjcocaaGreatDoor.B
