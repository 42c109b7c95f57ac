import Derived.Test.YtendbgedpjcocaaGreatDoorPkB
import Derived.Test.YtendbgedpjcocaaGreatDoorJnF
import Derived.Test.YtendbgedpjcocaaGreatDoorJnE
import Derived.Test.YtendbgedpjcocaaGreatDoorPkA
import Derived.Test.YtendbgedpjcocaaGreatDoorJnD
/- The draws of what is ok, and the copies, end. -/
namespace Go.Proofs.YtendbgedpjcocaaGreatDoor.B
open Go.RowKit Go.Proofs.YtendbgedpjcocaaGreatDoorW.PrintWords Go.Proofs.YtendbgedpjcocaaGreatDoorW.PrintLast Go.Proofs.YtendbgedpjcocaaGreatDoorW.PrintMore
set_option linter.unusedVariables false

theorem some_total (s : List Int) (hs : Bytes s) (hl : s.length ≤ 2000) (p : Int) (hp : 0 ≤ p) (hp1 : p < 1099500000000) :
  ∃ (e : Ex) (p' : Int) (k : Nat), Tiny e ∧ p ≤ p' ∧ p' ≤ p + 200002 ∧ Drew1 (spec_l3Some.f k s p) e p' := by
 obtain ⟨r, r0, r1, hr⟩ := pick_total s hs hl p 4 hp (by omega) (by omega) (by omega)
 obtain ⟨d, hd⟩ := Int.eq_ofNat_of_zero_le r0
 have hd4 : d < 4 := by omega
 have b1 := bnd_le (d + 1) (by omega)
 have b2 := bnd_le 2 (by omega)
 have b3 := bnd_pos (d + 1)
 have b4 := bnd_pos 2
 obtain ⟨e, p1, k1, he, q1, q2, h1⟩ := expr_total s hs hl (d + 1) (by omega) (p + 1) (by omega) (by omega)
 obtain ⟨k2, h2⟩ := exprOk_spec e he.short
 obtain ⟨e', p2, k3, he', q3, q4, h3⟩ := expr_total s hs hl 2 (by omega) p1 (by omega) (by omega)
 unfold Drew1 at h1 h3
 have m1 : spec_l3Expr.f (k1 + k2 + k3 + 1) s (p + 1) ((d + 1 : Nat) : Int) = _ := up_le (mono_ef _ _ _) (by omega) h1
 have m2 : spec_ExprOk.f (k1 + k2 + k3 + 1) e.f0 e.f1 e.f2.f0 e.f2.f1 e.f3 = _ := up_le (f := fun k => spec_ExprOk.f k e.f0 e.f1 e.f2.f0 e.f2.f1 e.f3) (fun k => spec_ExprOk.mono _ _ _ _ _ k) (show k2 ≤ k1 + k2 + k3 + 1 by omega) h2
 have m3 : spec_l3Expr.f (k1 + k2 + k3 + 1) s p1 2 = _ := up_le (mono_ef _ _ _) (by omega) h3
 have e1 : wrap64 (1 + r) = ((d + 1 : Nat) : Int) := by rw [wrap_id (by omega) (by omega)]; omega
 cases hv : (formS 6 e && decide (manyS 6 e ≤ 14)) with
 | true =>
  refine ⟨e, p1, k1 + k2 + k3 + 1, he, by omega, by omega, ?_⟩
  unfold Drew1
  rw [spec_l3Some.f, hr (k1 + k2 + k3)]
  simp only [Option.bind_some]
  rw [e1, m1]
  simp only [Option.bind_some]
  rw [m2, hv]
  simp
 | false =>
  refine ⟨e', p2, k1 + k2 + k3 + 1, he', by omega, by omega, ?_⟩
  unfold Drew1
  rw [spec_l3Some.f, hr (k1 + k2 + k3)]
  simp only [Option.bind_some]
  rw [e1, m1]
  simp only [Option.bind_some]
  rw [m2, hv]
  simp only [Option.bind_some, Bool.false_eq_true, if_false]
  rw [m3]
  simp

theorem addrBent_total (s : List Int) (hs : Bytes s) (hl : s.length ≤ 2000) (p : Int) (hp : 0 ≤ p) (hp1 : p < 1099500000000) :
  ∃ (a b p' : Int), p ≤ p' ∧ p' ≤ p + 4 ∧ ∀ k, spec_l2AddrBent.f (k + 1) s p = some (a, b, p') := by
 obtain ⟨a, b, ha, hb, hq⟩ := addr_total s hs hl p hp (by omega)
 obtain ⟨r, r0, r1, hr⟩ := pick_total s hs hl (p + 2) 16 (by omega) (by omega) (by omega) (by omega)
 obtain ⟨x, hx, hn⟩ := num_total s hs hl (p + 2 + 1) (by omega) (by omega) [0, 4, (-1)] (by simp) (by simp)
 obtain ⟨y, hy, hm⟩ := num_total s hs hl (p + 2 + 1) (by omega) (by omega) [(-1), 6, 5] (by simp) (by simp)
 by_cases h0 : r = 0
 ·refine ⟨x, b, p + 2 + 1 + 1, by omega, by omega, fun k => ?_⟩
  rw [spec_l2AddrBent.f, hq k]
  simp only [Option.bind_some]
  rw [hr k]
  simp only [Option.bind_some, if_pos h0]
  rw [hn k]; rfl
 ·by_cases h1 : r = 1
  ·refine ⟨a, y, p + 2 + 1 + 1, by omega, by omega, fun k => ?_⟩
   rw [spec_l2AddrBent.f, hq k]
   simp only [Option.bind_some]
   rw [hr k]
   simp only [Option.bind_some, if_neg h0, if_pos h1]
   rw [hm k]; rfl
  ·refine ⟨a, b, p + 2 + 1, by omega, by omega, fun k => ?_⟩
   rw [spec_l2AddrBent.f, hq k]
   simp only [Option.bind_some]
   rw [hr k]
   simp only [Option.bind_some, if_neg h0, if_neg h1]
theorem mono_cf (a b c d : Int) (l : List Ex) : ∀ k, LeO (spec_l3Copy.f k a b c d l) (spec_l3Copy.f (k + 1) a b c d l) := fun k => (spec_l3Copy.mono_l k).1 a b c d l
theorem mono_cl (x a b c d : Int) (l : List Ex) (a' b' c' d' : Int) (l' : List Ex) : ∀ k, LeO (spec_l3Copy.l0 k x a b c d l a' b' c' d' l') (spec_l3Copy.l0 (k + 1) x a b c d l a' b' c' d' l') := fun k => (spec_l3Copy.mono_l k).2 x a b c d l a' b' c' d' l'
theorem copy_total (e : Ex) (he : Tiny e) : ∃ k, spec_l3Copy.f k e.f0 e.f1 e.f2.f0 e.f2.f1 e.f3 = some (e.f0, e.f1, e.f2.f0, e.f2.f1, e.f3) := by
 induction he with
 | mk e hl hk ih =>
  have loop : ∀ (n j : Nat), n + j = e.f3.length → ∃ k, spec_l3Copy.l0 k j e.f0 e.f1 e.f2.f0 e.f2.f1 e.f3 e.f0 e.f1 e.f2.f0 e.f2.f1 (e.f3.take j) = some (e.f0, e.f1, e.f2.f0, e.f2.f1, e.f3) := by
   intro n
   induction n with
   | zero => intro j hj; exact ⟨1, by rw [spec_l3Copy.l0, if_neg (by omega), List.take_of_length_le (by omega)]⟩
   | succ n ihn =>
    intro j hj
    have hlt : j < e.f3.length := by omega
    obtain ⟨k1, h1⟩ := ih e.f3[j] (List.getElem_mem hlt)
    obtain ⟨k2, h2⟩ := ihn (j + 1) (by omega)
    refine ⟨k1 + k2 + 1, ?_⟩
    have eta : (⟨e.f3[j].f0, e.f3[j].f1, ⟨e.f3[j].f2.f0, e.f3[j].f2.f1⟩, e.f3[j].f3⟩ : Ex) = e.f3[j] := by cases e.f3[j] with | mk a b c l => cases c; rfl
    rw [spec_l3Copy.l0, if_pos (by omega), if_pos (by omega), rd_get e.f3 j hlt, up_le (mono_cf _ _ _ _ _) (Nat.le_add_right k1 k2) h1]
    simp only [Option.bind_some]
    rw [if_pos (by simp; omega), wrap_id (by omega) (by omega), eta, ← List.take_succ_eq_append_getElem hlt]
    exact up_le (mono_cl _ _ _ _ _ _ _ _ _ _ _) (Nat.le_add_left k2 k1) h2
  obtain ⟨k, h⟩ := loop e.f3.length 0 (by omega)
  exact ⟨k + 1, by rw [spec_l3Copy.f]; simpa using h⟩
end Go.Proofs.YtendbgedpjcocaaGreatDoor.B
/- Plain law: the specification's own reckoning of ExprOf ends, and says so. -/
namespace Go.Proofs.YtendbgedpjcocaaGreatDoor.B
open Go.RowKit Go.Proofs.YtendbgedpjcocaaGreatDoorW.PrintWords Go.Proofs.YtendbgedpjcocaaGreatDoorW.PrintLast Go.Proofs.YtendbgedpjcocaaGreatDoorW.PrintMore
set_option linter.unusedVariables false

theorem cut_eq (n : Int) : spec_NumCut.f n = impl_NumCut.f n := by
 rw [numCut_is, impl_NumCut.f]
 congr 1
 unfold mn mx
 by_cases h1 : n < -1000000
 ·simp [h1]
 ·by_cases h2 : (1000000 : Int) < n
  ·simp [h1, h2]
  ·simp [h1, h2]
theorem two_eq (k a b : Int) : spec_l3Two.f k a b = some (twoI k a b) := by
 rw [← two_some]
 unfold spec_l3Two.f impl_two.f spec_NumAdd.f spec_NumSub.f spec_NumMul.f impl_NumAdd.f impl_NumSub.f impl_NumMul.f impl_maker_of.f spec_NumIs.f spec_NumOn.f impl_NumIs.f impl_NumOn.f
 simp [cut_eq]
theorem get_eq (l0 l1 l2 : List Int) (h0 : l0.length = 6) (h1 : l1.length = 6) (h2 : l2.length = 6) (k a : Int) (h : addrOkL k a = true) : spec_l2Get.f l0 l1 l2 k a = some (getL (l0 ++ l1 ++ l2) k a) := by
 obtain ⟨hk, ha⟩ := addr_cases h
 rw [getL, if_pos h]
 obtain ⟨x0, x1, x2, x3, x4, x5, rfl⟩ := six l0 h0
 obtain ⟨y0, y1, y2, y3, y4, y5, rfl⟩ := six l1 h1
 obtain ⟨z0, z1, z2, z3, z4, z5, rfl⟩ := six l2 h2
 rcases hk with rfl | rfl | rfl <;> rcases ha with rfl | rfl | rfl | rfl | rfl | rfl <;> rfl
theorem mono_o (a b c d : Int) (l : List Ex) (l0 l1 l2 : List Int) : ∀ k, LeO (spec_l3Of.f k a b c d l l0 l1 l2) (spec_l3Of.f (k + 1) a b c d l l0 l1 l2) := fun k => spec_l3Of.mono_l k a b c d l l0 l1 l2
theorem of_spec (l0 l1 l2 : List Int) (h0 : l0.length = 6) (h1 : l1.length = 6) (h2 : l2.length = 6) (d : Nat) : ∀ e : Ex, formS d e = true → ∃ k, spec_l3Of.f k e.f0 e.f1 e.f2.f0 e.f2.f1 e.f3 l0 l1 l2 = some (evalI (l0 ++ l1 ++ l2) e) := by
 induction d with
 | zero => intro e h; cases h
 | succ d ih =>
  intro e h
  rw [formS, Bool.and_eq_true] at h
  have hkids : ∀ x ∈ e.f3, _ := fun x hx => ih x (List.all_eq_true.1 h.2 x hx)
  have hh := h.1
  unfold headOk at hh
  simp only [Bool.and_eq_true, beq_iff_eq] at hh
  obtain ⟨⟨hk, hl⟩, hs⟩ := hh
  have hk' : 1 ≤ e.f0 ∧ e.f0 ≤ 10 := of_decide_eq_true hk
  by_cases c1 : e.f0 = 1
  ·exact ⟨1, by rw [spec_l3Of.f, if_pos c1, evalI_eq, if_pos c1]⟩
  ·by_cases c2 : e.f0 = 2
   ·have ha : addrOkL e.f2.f0 e.f2.f1 = true := by
     rw [shapeL, if_neg c1, if_pos c2, Bool.and_eq_true] at hs; exact hs.1
    exact ⟨1, by rw [spec_l3Of.f, if_neg c1, if_pos c2, get_eq l0 l1 l2 h0 h1 h2 _ _ ha, evalI_eq, if_neg c1, if_pos c2]; rfl⟩
   ·by_cases c10 : e.f0 = 10
    ·have hl' : e.f3.length = 1 := by
      rw [kidsN, if_neg (by omega), if_neg (by omega)] at hl; omega
     obtain ⟨k, hk0⟩ := hkids e.f3[0] (List.getElem_mem (by omega))
     refine ⟨k + 1, ?_⟩
     have hr : rd_T27 e.f3 0 = e.f3[0] := rd_get e.f3 0 (by omega)
     have hv : (e.f3.map (evalI (l0 ++ l1 ++ l2))).getD 0 0 = evalI (l0 ++ l1 ++ l2) e.f3[0] := by
      rw [List.getD_eq_getElem?_getD, List.getElem?_map, List.getElem?_eq_getElem (by omega)]; rfl
     rw [spec_l3Of.f, if_neg c1, if_neg c2, if_pos c10, if_pos (by omega), hr, hk0, evalI_eq _ e, if_neg c1, if_neg c2, if_pos c10, hv]
     by_cases hz : evalI (l0 ++ l1 ++ l2) e.f3[0] = 0
     ·rw [hz]; rfl
     ·rw [if_neg hz]
      simp only [Option.bind_some, spec_NumOn.f, spec_NumIs.f, show (evalI (l0 ++ l1 ++ l2) e.f3[0] != 0) = true from bne_iff_ne.mpr hz, Bool.not_true, Bool.false_eq_true, if_false]
    ·have h39 : 3 ≤ e.f0 ∧ e.f0 ≤ 9 := by omega
     have hl' : e.f3.length = 2 := by
      rw [kidsN, if_neg (by omega), if_pos h39] at hl; omega
     obtain ⟨k0, hk0⟩ := hkids e.f3[0] (List.getElem_mem (by omega))
     obtain ⟨k1, hk1⟩ := hkids e.f3[1] (List.getElem_mem (by omega))
     refine ⟨k0 + k1 + 1, ?_⟩
     have hr0 : rd_T27 e.f3 0 = e.f3[0] := rd_get e.f3 0 (by omega)
     have hr1 : rd_T27 e.f3 1 = e.f3[1] := rd_get e.f3 1 (by omega)
     have hv0 : (e.f3.map (evalI (l0 ++ l1 ++ l2))).getD 0 0 = evalI (l0 ++ l1 ++ l2) e.f3[0] := by
      rw [List.getD_eq_getElem?_getD, List.getElem?_map, List.getElem?_eq_getElem (by omega)]; rfl
     have hv1 : (e.f3.map (evalI (l0 ++ l1 ++ l2))).getD 1 0 = evalI (l0 ++ l1 ++ l2) e.f3[1] := by
      rw [List.getD_eq_getElem?_getD, List.getElem?_map, List.getElem?_eq_getElem (by omega)]; rfl
     rw [spec_l3Of.f, if_neg c1, if_neg c2, if_neg c10, if_pos (by omega), hr0, hr1, up_le (mono_o _ _ _ _ _ _ _ _) (Nat.le_add_right k0 k1) hk0, Option.bind_some, if_pos (by omega), up_le (mono_o _ _ _ _ _ _ _ _) (Nat.le_add_left k1 k0) hk1, Option.bind_some, two_eq, evalI_eq _ e, if_neg c1, if_neg c2, if_neg c10, hv0, hv1]
     rfl
theorem mono_l2 (l : List Int) (j : Int) : ∀ k, LeO (spec_l2List.l0 k l j) (spec_l2List.l0 (k + 1) l j) := fun k => spec_l2List.mono_l k l j
theorem list_loop (l : List Int) (hl : l.length < 9223372036854775807) : ∀ (n j : Nat), n + j = l.length → ∃ k, spec_l2List.l0 k l j = some (l.length == 6 && !(l.drop j).any fun n => !isNumL n) := by
 intro n
 induction n with
 | zero =>
  intro j hj
  refine ⟨1, ?_⟩
  rw [spec_l2List.l0, if_neg (by omega), List.drop_eq_nil_of_le (by omega)]
  by_cases h6 : l.length = 6
  ·simp [h6]
  ·have q1 : ((l.length : Int) == 6) = false := beq_false_of_ne (by omega)
   have q2 : (l.length == 6) = false := beq_false_of_ne h6
   rw [q1, q2]; rfl
 | succ n ihn =>
  intro j hj
  have hlt : j < l.length := by omega
  obtain ⟨k2, h2⟩ := ihn (j + 1) (by omega)
  refine ⟨k2 + 1, ?_⟩
  have hr : rd l (j : Int) = l[j] := by simp [rd, hlt]
  rw [spec_l2List.l0, if_pos (by omega), if_pos (by omega), hr, numCut_is, Option.bind_some, wrap_small (by omega) (by omega), List.drop_eq_getElem_cons hlt, List.any_cons]
  by_cases c1 : l[j] < -1000000
  ·have q1 : ¬ (-1000000 : Int) = l[j] := by omega
   have q2 : isNumL l[j] = false := by unfold isNumL; exact decide_eq_false (by omega)
   simp [c1, q1, q2]
  ·by_cases c2 : 1000000 < l[j]
   ·have q1 : ¬ (1000000 : Int) = l[j] := by omega
    have q2 : isNumL l[j] = false := by unfold isNumL; exact decide_eq_false (by omega)
    simp [c1, c2, q1, q2]
   ·have q2 : isNumL l[j] = true := by unfold isNumL; exact decide_eq_true (by omega)
    simp only [c1, c2, if_false, if_true, q2, Bool.not_true, Bool.false_or]
    exact h2
theorem list_spec (l : List Int) (hl : l.length < 9223372036854775807) : ∃ k, spec_l2List.f k l = some (listOk l) := by
 obtain ⟨k, h⟩ := list_loop l hl l.length 0 (by omega)
 exact ⟨k, h⟩
theorem mono_l2f (l : List Int) : ∀ k, LeO (spec_l2List.f k l) (spec_l2List.f (k + 1) l) := fun k => mono_l2 l 0 k
theorem memOk_spec (l0 l1 l2 : List Int) (h0 : l0.length < 9223372036854775807) (h1 : l1.length < 9223372036854775807) (h2 : l2.length < 9223372036854775807) : ∃ k, spec_MemOk.f k l0 l1 l2 = some (memOkL l0 l1 l2) := by
 obtain ⟨k0, e0⟩ := list_spec l0 h0
 obtain ⟨k1, e1⟩ := list_spec l1 h1
 obtain ⟨k2, e2⟩ := list_spec l2 h2
 refine ⟨k0 + k1 + k2, ?_⟩
 unfold spec_MemOk.f memOkL
 rw [up_le (mono_l2f l0) (by omega) e0, up_le (mono_l2f l1) (by omega) e1, up_le (mono_l2f l2) (by omega) e2]
 cases listOk l0 <;> cases listOk l1 <;> simp
end Go.Proofs.YtendbgedpjcocaaGreatDoor.B
/- What is reckoned of two and of one: plain facts. -/
namespace Go.Proofs.YtendbgedpjcocaaGreatDoor.B
open Go.RowKit Go.Proofs.YtendbgedpjcocaaGreatDoorW.PrintWords Go.Proofs.YtendbgedpjcocaaGreatDoorW.PrintLast Go.Proofs.YtendbgedpjcocaaGreatDoorW.PrintMore
set_option linter.unusedVariables false

def okE (e : Ex) : Bool := formS 6 e && decide (manyS 6 e ≤ 14)
theorem ofV_eq (e : Ex) (l0 l1 l2 : List Int) : ofV e l0 l1 l2 = if memOkL l0 l1 l2 && okE e then evalI (l0 ++ l1 ++ l2) e else 0 := by rw [ofV, okL_eq]; rfl
def cutL (n : Int) : Int := if n < -1000000 then -1000000 else if 1000000 < n then 1000000 else n
theorem cutI (n : Int) : impl_NumCut.f n = some (cutL n) := by rw [← cut_eq, numCut_is]; rfl
end Go.Proofs.YtendbgedpjcocaaGreatDoor.B
/- Plain law: statements are run: what a run leaves, how it ends, how much fuel is left. -/
namespace Go.Proofs.YtendbgedpjcocaaGreatDoor.B
open Go.RowKit Go.Proofs.YtendbgedpjcocaaGreatDoorW.PrintWords Go.Proofs.YtendbgedpjcocaaGreatDoorW.PrintLast Go.Proofs.YtendbgedpjcocaaGreatDoorW.PrintMore
set_option linter.unusedVariables false

/-- A number is put at a place, cut, if something can be put there. -/
def putB (bs : List Int) (k a n : Int) : List Int := if putsL k a = true then bs.set ((k - 1) * 6 + a).toNat (cutL n) else bs
/-- The numbers, how it ends (0: well, 1: too long), the fuel that is left. -/
abbrev Res := List Int × Int × Int
/-- A list is run; with so many steps at most. -/
def runL : Nat → List Int → List St → Int → Option Res
 | 0, _, _, _ => none
 | _ + 1, bs, [], f => some (bs, 0, f)
 | k + 1, bs, s :: l, f =>
  (if s.f0 = 1 then some (putB bs s.f1.f0 s.f1.f1 (evalI bs s.f2), 0, f)
   else if s.f0 = 3 then (if evalI bs s.f2 = 0 then some (bs, 0, f) else (runL k bs s.f3 f).bind fun r => if r.2.1 = 0 then (if r.2.2 < 1 then some (r.1, 1, 0) else runL k r.1 [s] (r.2.2 - 1)) else some r)
   else runL k bs (if evalI bs s.f2 = 0 then s.f4 else s.f3) f).bind fun r => if r.2.1 = 0 then runL k r.1 l r.2.2 else some r
/-- The first of a list. -/
def stepR (k : Nat) (bs : List Int) (s : St) (f : Int) : Option Res :=
 if s.f0 = 1 then some (putB bs s.f1.f0 s.f1.f1 (evalI bs s.f2), 0, f)
 else if s.f0 = 3 then (if evalI bs s.f2 = 0 then some (bs, 0, f) else (runL k bs s.f3 f).bind fun r => if r.2.1 = 0 then (if r.2.2 < 1 then some (r.1, 1, 0) else runL k r.1 [s] (r.2.2 - 1)) else some r)
 else runL k bs (if evalI bs s.f2 = 0 then s.f4 else s.f3) f
theorem runL_nil (k : Nat) (bs : List Int) (f : Int) : runL (k + 1) bs [] f = some (bs, 0, f) := by rw [runL]
theorem runL_cons (k : Nat) (bs : List Int) (s : St) (l : List St) (f : Int) : runL (k + 1) bs (s :: l) f = (stepR k bs s f).bind fun r => if r.2.1 = 0 then runL k r.1 l r.2.2 else some r := by rw [runL]; rfl
theorem stepR_mono {k : Nat} (ih : ∀ bs l f, LeO (runL k bs l f) (runL (k + 1) bs l f)) (bs : List Int) (s : St) (f : Int) : LeO (stepR k bs s f) (stepR (k + 1) bs s f) := by
 intro r h
 unfold stepR at h ⊢
 by_cases h1 : s.f0 = 1
 ·rw [if_pos h1] at h ⊢; exact h
 ·rw [if_neg h1] at h ⊢
  by_cases h3 : s.f0 = 3
  ·rw [if_pos h3] at h ⊢
   by_cases he : evalI bs s.f2 = 0
   ·rw [if_pos he] at h ⊢; exact h
   ·rw [if_neg he] at h ⊢
    obtain ⟨r1, hr1, h⟩ := Option.bind_eq_some_iff.1 h
    rw [ih _ _ _ r1 hr1, Option.bind_some]
    by_cases hc : r1.2.1 = 0
    ·rw [if_pos hc] at h ⊢
     by_cases hf : r1.2.2 < 1
     ·rw [if_pos hf] at h ⊢; exact h
     ·rw [if_neg hf] at h ⊢; exact ih _ _ _ r h
    ·rw [if_neg hc] at h ⊢; exact h
  ·rw [if_neg h3] at h ⊢
   exact ih _ _ _ r h
theorem runL_mono : ∀ k bs l f, LeO (runL k bs l f) (runL (k + 1) bs l f) := by
 intro k
 induction k with
 | zero => intro bs l f r h; rw [runL] at h; cases h
 | succ k ih =>
  intro bs l f r h
  cases l with
  | nil => rw [runL_nil] at h ⊢; exact h
  | cons s l =>
   rw [runL_cons] at h ⊢
   obtain ⟨r1, hr1, h⟩ := Option.bind_eq_some_iff.1 h
   rw [stepR_mono ih bs s f r1 hr1, Option.bind_some]
   by_cases hc : r1.2.1 = 0
   ·rw [if_pos hc] at h ⊢; exact ih _ _ _ r h
   ·rw [if_neg hc] at h ⊢; exact h
theorem runL_up {k k' : Nat} (hk : k ≤ k') {bs : List Int} {l : List St} {f : Int} {r : Res} (h : runL k bs l f = some r) : runL k' bs l f = some r := up_le (f := fun k => runL k bs l f) (fun k => runL_mono k bs l f) hk h
theorem stepR_up {k k' : Nat} (hk : k ≤ k') {bs : List Int} {s : St} {f : Int} {r : Res} (h : stepR k bs s f = some r) : stepR k' bs s f = some r := up_le (f := fun k => stepR k bs s f) (fun k => stepR_mono (runL_mono k) bs s f) hk h
/-- A list's run. -/
def Run (bs : List Int) (l : List St) (f : Int) (r : Res) : Prop := ∃ k, runL k bs l f = some r
theorem Run.one {bs : List Int} {l : List St} {f : Int} {r r' : Res} (h : Run bs l f r) (h' : Run bs l f r') : r = r' := by
 obtain ⟨k, hk⟩ := h
 obtain ⟨k', hk'⟩ := h'
 have := (runL_up (Nat.le_max_left k k') hk).symm.trans (runL_up (Nat.le_max_right k k') hk')
 exact Option.some.inj this
theorem Run.nil (bs : List Int) (f : Int) : Run bs [] f (bs, 0, f) := ⟨1, runL_nil 0 bs f⟩
/-- The first's run. -/
def RunS (bs : List Int) (s : St) (f : Int) (r : Res) : Prop := ∃ k, stepR k bs s f = some r
theorem Run.cons {bs : List Int} {s : St} {l : List St} {f : Int} {r1 r : Res} (h : RunS bs s f r1) (h' : if r1.2.1 = 0 then Run r1.1 l r1.2.2 r else r = r1) : Run bs (s :: l) f r := by
 obtain ⟨k, hk⟩ := h
 by_cases hc : r1.2.1 = 0
 ·rw [if_pos hc] at h'
  obtain ⟨k', hk'⟩ := h'
  refine ⟨max k k' + 1, ?_⟩
  rw [runL_cons, stepR_up (Nat.le_max_left k k') hk, Option.bind_some, if_pos hc]
  exact runL_up (Nat.le_max_right k k') hk'
 ·rw [if_neg hc] at h'
  refine ⟨k + 1, ?_⟩
  rw [runL_cons, hk, Option.bind_some, if_neg hc, h']
theorem Run.uncons {bs : List Int} {s : St} {l : List St} {f : Int} {r : Res} (h : Run bs (s :: l) f r) : ∃ r1, RunS bs s f r1 ∧ (if r1.2.1 = 0 then Run r1.1 l r1.2.2 r else r = r1) := by
 obtain ⟨k, hk⟩ := h
 cases k with
 | zero => rw [runL] at hk; cases hk
 | succ k =>
  rw [runL_cons] at hk
  obtain ⟨r1, hr1, h⟩ := Option.bind_eq_some_iff.1 hk
  refine ⟨r1, ⟨k, hr1⟩, ?_⟩
  by_cases hc : r1.2.1 = 0
  ·rw [if_pos hc] at h ⊢; exact ⟨k, h⟩
  ·rw [if_neg hc] at h ⊢; exact (Option.some.inj h).symm
theorem RunS.set {bs : List Int} {s : St} {f : Int} (h1 : s.f0 = 1) : RunS bs s f (putB bs s.f1.f0 s.f1.f1 (evalI bs s.f2), 0, f) := ⟨0, by rw [stepR, if_pos h1]⟩
theorem RunS.if {bs : List Int} {s : St} {f : Int} {r : Res} (h1 : s.f0 = 2) (h : Run bs (if evalI bs s.f2 = 0 then s.f4 else s.f3) f r) : RunS bs s f r := by
 obtain ⟨k, hk⟩ := h
 exact ⟨k, by rw [stepR, if_neg (by omega), if_neg (by omega)]; exact hk⟩
theorem RunS.off {bs : List Int} {s : St} {f : Int} (h1 : s.f0 = 3) (he : evalI bs s.f2 = 0) : RunS bs s f (bs, 0, f) := ⟨0, by rw [stepR, if_neg (by omega), if_pos h1, if_pos he]⟩
theorem RunS.stop {bs : List Int} {s : St} {f : Int} {r : Res} (h1 : s.f0 = 3) (he : evalI bs s.f2 ≠ 0) (h : Run bs s.f3 f r) (hc : r.2.1 ≠ 0) : RunS bs s f r := by
 obtain ⟨k, hk⟩ := h
 exact ⟨k, by rw [stepR, if_neg (by omega), if_pos h1, if_neg he, hk, Option.bind_some, if_neg hc]⟩
theorem RunS.long {bs : List Int} {s : St} {f : Int} {r : Res} (h1 : s.f0 = 3) (he : evalI bs s.f2 ≠ 0) (h : Run bs s.f3 f r) (hc : r.2.1 = 0) (hf : r.2.2 < 1) : RunS bs s f (r.1, 1, 0) := by
 obtain ⟨k, hk⟩ := h
 exact ⟨k, by rw [stepR, if_neg (by omega), if_pos h1, if_neg he, hk, Option.bind_some, if_pos hc, if_pos hf]⟩
theorem RunS.again {bs : List Int} {s : St} {f : Int} {r r' : Res} (h1 : s.f0 = 3) (he : evalI bs s.f2 ≠ 0) (h : Run bs s.f3 f r) (hc : r.2.1 = 0) (hf : ¬ r.2.2 < 1) (h' : Run r.1 [s] (r.2.2 - 1) r') : RunS bs s f r' := by
 obtain ⟨k, hk⟩ := h
 obtain ⟨k', hk'⟩ := h'
 exact ⟨max k k', by rw [stepR, if_neg (by omega), if_pos h1, if_neg he, runL_up (Nat.le_max_left k k') hk, Option.bind_some, if_pos hc, if_neg hf]; exact runL_up (Nat.le_max_right k k') hk'⟩
theorem Run.single {bs : List Int} {s : St} {f : Int} {r : Res} : Run bs [s] f r ↔ RunS bs s f r := by
 constructor
 ·intro h
  obtain ⟨r1, h1, h2⟩ := h.uncons
  by_cases hc : r1.2.1 = 0
  ·rw [if_pos hc] at h2
   have := (Run.nil r1.1 r1.2.2).one h2
   obtain ⟨a, b, c⟩ := r1
   simp only at hc
   subst hc
   rw [← this]; exact h1
  ·rw [if_neg hc] at h2; rw [h2]; exact h1
 ·intro h
  refine Run.cons h ?_
  by_cases hc : r.2.1 = 0
  ·rw [if_pos hc]
   obtain ⟨a, b, c⟩ := r
   simp only at hc
   subst hc
   exact Run.nil a c
  ·rw [if_neg hc]
/-- What every run's end is like. -/
structure Fits (f : Int) (r : Res) : Prop where
 lo : 0 ≤ r.2.2
 hi : r.2.2 ≤ f
 how : r.2.1 = 0 ∨ r.2.1 = 1 ∧ r.2.2 = 0
theorem run_total (d : Nat) : ∀ l : List St, formT d l = true → ∀ (f : Int) (bs : List Int), 0 ≤ f → ∃ r, Run bs l f r ∧ Fits f r := by
 induction d with
 | zero =>
  intro l hl f bs hf
  cases l with
  | nil => exact ⟨_, Run.nil bs f, ⟨hf, Int.le_refl _, .inl rfl⟩⟩
  | cons s l => cases hl
 | succ d ih =>
  have one : ∀ s : St, headSt s = true → formT d s.f3 = true → formT d s.f4 = true → ∀ (n : Nat) (f : Int) (bs : List Int), 0 ≤ f → f.toNat ≤ n → ∃ r, RunS bs s f r ∧ Fits f r := by
   intro s hs h3 h4 n
   have hk : s.f0 = 1 ∨ s.f0 = 2 ∨ s.f0 = 3 := by
    unfold headSt plainL at hs
    by_cases h1 : s.f0 = 1
    ·exact .inl h1
    ·by_cases h2 : s.f0 = 2
     ·exact .inr (.inl h2)
     ·by_cases h3 : s.f0 = 3
      ·exact .inr (.inr h3)
      ·rw [if_neg h1, if_neg h2, if_neg h3] at hs; simp at hs
   induction n with
   | zero =>
    intro f bs hf hn
    obtain rfl : f = 0 := by omega
    rcases hk with h | h | h
    ·exact ⟨_, RunS.set h, ⟨Int.le_refl _, Int.le_refl _, .inl rfl⟩⟩
    ·obtain ⟨r, hr, hF⟩ := ih (if evalI bs s.f2 = 0 then s.f4 else s.f3) (by split <;> assumption) 0 bs hf
     exact ⟨r, RunS.if h hr, hF⟩
    ·by_cases he : evalI bs s.f2 = 0
     ·exact ⟨_, RunS.off h he, ⟨Int.le_refl _, Int.le_refl _, .inl rfl⟩⟩
     ·obtain ⟨r, hr, hF⟩ := ih s.f3 h3 0 bs hf
      by_cases hc : r.2.1 = 0
      ·exact ⟨_, RunS.long h he hr hc (by have := hF.hi; omega), ⟨Int.le_refl _, Int.le_refl _, .inr ⟨rfl, rfl⟩⟩⟩
      ·exact ⟨r, RunS.stop h he hr hc, hF⟩
   | succ n ihn =>
    intro f bs hf hn
    rcases hk with h | h | h
    ·exact ⟨_, RunS.set h, ⟨hf, Int.le_refl _, .inl rfl⟩⟩
    ·obtain ⟨r, hr, hF⟩ := ih (if evalI bs s.f2 = 0 then s.f4 else s.f3) (by split <;> assumption) f bs hf
     exact ⟨r, RunS.if h hr, hF⟩
    ·by_cases he : evalI bs s.f2 = 0
     ·exact ⟨_, RunS.off h he, ⟨hf, Int.le_refl _, .inl rfl⟩⟩
     ·obtain ⟨r, hr, hF⟩ := ih s.f3 h3 f bs hf
      by_cases hc : r.2.1 = 0
      ·by_cases hl : r.2.2 < 1
       ·exact ⟨_, RunS.long h he hr hc hl, ⟨Int.le_refl _, hf, .inr ⟨rfl, rfl⟩⟩⟩
       ·have h1 := hF.hi
        obtain ⟨r', hr', hF'⟩ := ihn (r.2.2 - 1) r.1 (by omega) (by omega)
        have h2 := hF'.hi
        exact ⟨r', RunS.again h he hr hc hl (Run.single.2 hr'), ⟨hF'.lo, by omega, hF'.how⟩⟩
      ·exact ⟨r, RunS.stop h he hr hc, hF⟩
  intro l
  induction l with
  | nil => intro _ f bs hf; exact ⟨_, Run.nil bs f, ⟨hf, Int.le_refl _, .inl rfl⟩⟩
  | cons s l ihl =>
   intro hl f bs hf
   have hl' : (headSt s && (formT d s.f3 && formT d s.f4)) = true ∧ formT (d + 1) l = true := by
    have : formT (d + 1) (s :: l) = ((headSt s && (formT d s.f3 && formT d s.f4)) && formT (d + 1) l) := rfl
    rw [this, Bool.and_eq_true] at hl; exact hl
   simp only [Bool.and_eq_true] at hl'
   obtain ⟨⟨hs, h3, h4⟩, hl2⟩ := hl'
   obtain ⟨r1, hr1, hF1⟩ := one s hs h3 h4 f.toNat f bs hf (Nat.le_refl _)
   by_cases hc : r1.2.1 = 0
   ·obtain ⟨r, hr, hF⟩ := ihl hl2 r1.2.2 r1.1 hF1.lo
    have h1 := hF.hi; have h2 := hF1.hi
    exact ⟨r, Run.cons hr1 (by rw [if_pos hc]; exact hr), ⟨hF.lo, by omega, hF.how⟩⟩
   ·exact ⟨r1, Run.cons hr1 (by rw [if_neg hc]), hF1⟩
/-- What holds at the beginning of a run and is kept by each number that is put holds at its end. -/
theorem run_keeps (P : List Int → Prop) : ∀ (k : Nat) (l : List St) (W : St → Prop), (∀ s, W s → ∀ x ∈ s.f3, W x) → (∀ s, W s → ∀ x ∈ s.f4, W x) → (∀ s, W s → s.f0 = 1 → ∀ bs, P bs → P (putB bs s.f1.f0 s.f1.f1 (evalI bs s.f2))) →
  (∀ s ∈ l, W s) → ∀ (bs : List Int) (f : Int) (r : Res), P bs → runL k bs l f = some r → P r.1 := by
 intro k
 induction k with
 | zero => intro l W _ _ _ _ bs f r _ h; rw [runL] at h; cases h
 | succ k ih =>
  intro l W h3 h4 hP hl bs f r hb h
  cases l with
  | nil => rw [runL_nil] at h; cases h; exact hb
  | cons s l =>
   rw [runL_cons] at h
   obtain ⟨r1, hr1, h⟩ := Option.bind_eq_some_iff.1 h
   have hs := hl s List.mem_cons_self
   have hp1 : P r1.1 := by
    unfold stepR at hr1
    by_cases k1 : s.f0 = 1
    ·rw [if_pos k1] at hr1; cases hr1; exact hP s hs k1 bs hb
    ·rw [if_neg k1] at hr1
     by_cases k3 : s.f0 = 3
     ·rw [if_pos k3] at hr1
      by_cases he : evalI bs s.f2 = 0
      ·rw [if_pos he] at hr1; cases hr1; exact hb
      ·rw [if_neg he] at hr1
       obtain ⟨r2, hr2, hr1⟩ := Option.bind_eq_some_iff.1 hr1
       have hp2 := ih s.f3 W h3 h4 hP (h3 s hs) bs f r2 hb hr2
       by_cases hc : r2.2.1 = 0
       ·rw [if_pos hc] at hr1
        by_cases hf : r2.2.2 < 1
        ·rw [if_pos hf] at hr1; cases hr1; exact hp2
        ·rw [if_neg hf] at hr1
         exact ih [s] W h3 h4 hP (fun x hx => by rw [List.mem_singleton] at hx; rw [hx]; exact hs) _ _ _ hp2 hr1
       ·rw [if_neg hc] at hr1; cases hr1; exact hp2
     ·rw [if_neg k3] at hr1
      refine ih _ W h3 h4 hP ?_ bs f r1 hb hr1
      split
      ·exact h4 s hs
      ·exact h3 s hs
   by_cases hc : r1.2.1 = 0
   ·rw [if_pos hc] at h
    exact ih l W h3 h4 hP (fun x hx => hl x (List.mem_cons_of_mem _ hx)) _ _ _ hp1 h
   ·rw [if_neg hc] at h; cases h; exact hp1
end Go.Proofs.YtendbgedpjcocaaGreatDoor.B
/- A drawn region whose last operation, or last two, behind all others, do whatever they do (append, store, a call that writes). -/
namespace Go.Proofs.YtendbgedpjcocaaGreatDoor.B
open Go Go.RowKit

section
variable {P : Program} {ops : Array Oper} {Q : Exit → Act → World → Prop} {md : Region.Mode}
/-- What stands before the operations of L, as far as n steps reach. -/
def reachW (ops : Array Oper) : Nat → List Nat → List Nat
 | 0, L => L
 | n + 1, L => reachW ops n (L ++ L.flatMap fun i => match ops[i]? with | some o => waitsOn o | none => []).eraseDups
theorem reachW_all {l : Nat → Bool} (hd : ∀ (i : Nat) (o : Oper), ops[i]? = some o → l i = true → ∀ j ∈ waitsOn o, l j = true) : ∀ (n : Nat) (L : List Nat), (∀ j ∈ L, l j = true) → ∀ j ∈ reachW ops n L, l j = true := by
 intro n
 induction n with
 | zero => exact fun _ h => h
 | succ n ih =>
  intro L h
  refine ih _ fun j hj => ?_
  rw [List.mem_eraseDups, List.mem_append] at hj
  rcases hj with hj | hj
  ·exact h j hj
  ·obtain ⟨i, hi, hji⟩ := List.mem_flatMap.1 hj
   cases ho : ops[i]? with
   | none => rw [ho] at hji; cases hji
   | some o => rw [ho] at hji; exact hd i o ho (h i hi) j hji
/-- A drawn region that makes memory, and whose last operation, behind all others, does whatever it does. -/
theorem weaveLast_ {id : Nat} {a0 : Act} {w : World} (m : Nat) (hm1 : ops.size = m + 1) (p : World → Prop) (hp : Lasts p) (h0 : p w) (ds : List (Tmp × Nat)) (Fs : List (Value → World → Prop)) (hm : P.follows .mixedOrders = true) (hB : weaveB ops ds = true) (hF : LastAll Fs)
  (hall : (match ops[m]? with | some o => (List.range m).all fun j => (reachW ops m (waitsOn o)).contains j | none => false) = true)
  (hwait : ((List.range m).all fun i => match ops[i]? with | some o => (waitsOn o).all fun j => decide (j < m) | none => true) = true)
  (hstep : OpsAll (fun i o => i < m → ∀ vs W, p W → (∀ j ∈ waitsOn o, FAt Fs j (vs j) W) → ∀ b, Sees a0 ds o vs b → StepOK P ops o b W fun v W' => Below W.heap.size W W' ∧ FAt Fs i v W') ops.toList 0)
  (Ψ : Value → World → Prop) (hlast : ∀ o, ops[m]? = some o → ∀ vs W, p W → (∀ j, j < m → FAt Fs j (vs j) W) → ∀ b, Sees a0 ds o vs b → StepOK P ops o b W Ψ)
  (hend : ∀ (vs : Nat → Value) W, Ψ (vs m) W → Q .normal (putL a0 (ds.map fun q => (q.1, vs q.2))) W) : (Code.region id ops true).wp P Q a0 w := by
 refine weave (fun l vs W => (∀ (i : Nat) (o : Oper), ops[i]? = some o → l i = true → ∀ j ∈ waitsOn o, l j = true) ∧ (l m = false → p W ∧ ∀ j, j < m → l j = true → FAt Fs j (vs j) W) ∧ (l m = true → Ψ (vs m) W)) ds hm hB ?_ ?_ ?_
 ·exact ⟨(fun _ _ _ h => absurd h (by simp)), (fun _ => ⟨hp _ _ (drew_below w) h0, (fun _ _ h => absurd h (by simp))⟩), (fun h => absurd h (by simp))⟩
 ·intro i o ho l vs W ⟨hc, hI, _⟩ hli hw b hsee
  have hlt := (Array.getElem?_eq_some_iff.1 ho).1
  obtain ⟨om, hom⟩ : ∃ o, ops[m]? = some o := ⟨ops[m], by simp [show m < ops.size by omega]⟩
  have hbelow : (∀ j ∈ waitsOn om, l j = true) → ∀ j, j < m → l j = true := fun hh j hj => by
   rw [hom] at hall
   exact reachW_all hc m _ hh j (by simpa using List.all_eq_true.1 hall j (List.mem_range.2 hj))
  have hdc : ∀ (i' : Nat) (o' : Oper), ops[i']? = some o' → (i' == i || l i') = true → ∀ j ∈ waitsOn o', (j == i || l j) = true := by
   intro i' o' ho' hh j hj
   by_cases hii : i' = i
   ·subst hii
    have : o' = o := Option.some.inj (ho'.symm.trans ho)
    subst this
    simp [hw j hj]
   ·have : l i' = true := by simpa [hii] using hh
    simp [hc i' o' ho' this j hj]
  by_cases hin : i < m
  ·have hlm : l m = false := by
    cases hq : l m with
    | false => rfl
    | true => rw [hbelow (hc m om hom hq) i hin] at hli; cases hli
   obtain ⟨h1, h2⟩ := hI hlm
   have hst := OpsAll.at ops.toList 0 hstep i o (by rw [Array.getElem?_toList]; exact ho)
   rw [Nat.zero_add] at hst
   have hmi : (m == i) = false := by simp; omega
   intro K Q' hK
   refine hst hin vs W h1 (fun j hj => ?_) b hsee K Q' fun v W' hv => hK v W' ⟨hdc, fun _ => ⟨hp _ _ hv.1 h1, fun j hj hlj => ?_⟩, fun hh => by simp [hmi, hlm] at hh⟩
   ·have hjm : j < m := by
     have := List.all_eq_true.1 hwait i (List.mem_range.2 hin)
     rw [ho] at this
     simpa using List.all_eq_true.1 this j hj
    exact h2 j hjm (hw j hj)
   ·by_cases hji : j = i
    ·subst hji
     simpa using hv.2
    ·simp only [hji, if_false]
     exact FAt.last Fs hF j _ _ _ hv.1 (h2 j hj (by simpa [hji] using hlj))
  ·have him : i = m := by omega
   subst him
   obtain ⟨h1, h2⟩ := hI hli
   have : o = om := Option.some.inj (ho.symm.trans hom)
   subst this
   have hl := hbelow hw
   intro K Q' hK
   exact hlast o ho vs W h1 (fun j hj => h2 j hj (hl j hj)) b hsee K Q' fun v W' hv => hK v W' ⟨hdc, fun hh => by simp at hh, fun _ => by simpa using hv⟩
 ·intro l vs W hl hI
  exact hend vs W (hI.2.2 (hl m (by omega)))
/-- A drawn region that makes memory, and whose last two operations, behind all others, do whatever they do, one behind the other. -/
theorem weaveTail_ {id : Nat} {a0 : Act} {w : World} (m : Nat) (hm1 : ops.size = m + 2) (p : World → Prop) (hp : Lasts p) (h0 : p w) (ds : List (Tmp × Nat)) (Fs : List (Value → World → Prop)) (hm : P.follows .mixedOrders = true) (hB : weaveB ops ds = true) (hF : LastAll Fs)
  (hall : (match ops[m]? with | some o => (List.range m).all fun j => (reachW ops m (waitsOn o)).contains j | none => false) = true)
  (hall2 : (match ops[m + 1]? with | some o => (waitsOn o).contains m | none => false) = true)
  (hwait : ((List.range m).all fun i => match ops[i]? with | some o => (waitsOn o).all fun j => decide (j < m) | none => true) = true)
  (hstep : OpsAll (fun i o => i < m → ∀ vs W, p W → (∀ j ∈ waitsOn o, FAt Fs j (vs j) W) → ∀ b, Sees a0 ds o vs b → StepOK P ops o b W fun v W' => Below W.heap.size W W' ∧ FAt Fs i v W') ops.toList 0)
  (Ψ Φ : Value → World → Prop) (hlast : ∀ o, ops[m]? = some o → ∀ vs W, p W → (∀ j, j < m → FAt Fs j (vs j) W) → ∀ b, Sees a0 ds o vs b → StepOK P ops o b W Ψ)
  (hlast2 : ∀ o, ops[m + 1]? = some o → ∀ vs W, Ψ (vs m) W → ∀ b, Sees a0 ds o vs b → StepOK P ops o b W Φ)
  (hend : ∀ (vs : Nat → Value) W, Φ (vs (m + 1)) W → Q .normal (putL a0 (ds.map fun q => (q.1, vs q.2))) W) : (Code.region id ops true).wp P Q a0 w := by
 refine weave (fun l vs W => (∀ (i : Nat) (o : Oper), ops[i]? = some o → l i = true → ∀ j ∈ waitsOn o, l j = true) ∧ (l m = false → p W ∧ ∀ j, j < m → l j = true → FAt Fs j (vs j) W) ∧ (l m = true → l (m + 1) = false → Ψ (vs m) W) ∧ (l (m + 1) = true → Φ (vs (m + 1)) W)) ds hm hB ?_ ?_ ?_
 ·exact ⟨(fun _ _ _ h => absurd h (by simp)), (fun _ => ⟨hp _ _ (drew_below w) h0, (fun _ _ h => absurd h (by simp))⟩), (fun h => absurd h (by simp)), (fun h => absurd h (by simp))⟩
 ·intro i o ho l vs W ⟨hc, hI, hJ, _⟩ hli hw b hsee
  have hlt := (Array.getElem?_eq_some_iff.1 ho).1
  have hom : ∃ o, ops[m]? = some o := ⟨ops[m], by simp [show m < ops.size by omega]⟩
  obtain ⟨om, hom⟩ := hom
  have hom1 : ∃ o, ops[m + 1]? = some o := ⟨ops[m + 1], by simp [show m + 1 < ops.size by omega]⟩
  obtain ⟨om1, hom1⟩ := hom1
  have hbelow : (∀ j ∈ waitsOn om, l j = true) → ∀ j, j < m → l j = true := fun hh j hj => by
   rw [hom] at hall
   exact reachW_all hc m _ hh j (by simpa using List.all_eq_true.1 hall j (List.mem_range.2 hj))
  have hm1m : l (m + 1) = true → l m = true := fun hh => hc _ _ hom1 hh m (by rw [hom1] at hall2; simpa using hall2)
  have hdc : ∀ (i' : Nat) (o' : Oper), ops[i']? = some o' → (i' == i || l i') = true → ∀ j ∈ waitsOn o', (j == i || l j) = true := by
   intro i' o' ho' hh j hj
   by_cases hii : i' = i
   ·subst hii
    have : o' = o := Option.some.inj (ho'.symm.trans ho)
    subst this
    simp [hw j hj]
   ·have : l i' = true := by simpa [hii] using hh
    simp [hc i' o' ho' this j hj]
  by_cases hin : i < m
  ·have hlm : l m = false := by
    cases hq : l m with
    | false => rfl
    | true => rw [hbelow (hc m om hom hq) i hin] at hli; cases hli
   have hlm1 : l (m + 1) = false := by
    cases hq : l (m + 1) with
    | false => rfl
    | true => rw [hm1m hq] at hlm; cases hlm
   obtain ⟨h1, h2⟩ := hI hlm
   have hst := OpsAll.at ops.toList 0 hstep i o (by rw [Array.getElem?_toList]; exact ho)
   rw [Nat.zero_add] at hst
   have hmi : (m == i) = false := by simp; omega
   have hmi1 : (m + 1 == i) = false := by simp; omega
   intro K Q' hK
   refine hst hin vs W h1 (fun j hj => ?_) b hsee K Q' fun v W' hv => hK v W' ⟨hdc, fun _ => ⟨hp _ _ hv.1 h1, fun j hj hlj => ?_⟩, fun hh => by simp [hmi, hlm] at hh, fun hh => by simp [hmi1, hlm1] at hh⟩
   ·have hjm : j < m := by
     have := List.all_eq_true.1 hwait i (List.mem_range.2 hin)
     rw [ho] at this
     simpa using List.all_eq_true.1 this j hj
    exact h2 j hjm (hw j hj)
   ·by_cases hji : j = i
    ·subst hji
     simpa using hv.2
    ·simp only [hji, if_false]
     exact FAt.last Fs hF j _ _ _ hv.1 (h2 j hj (by simpa [hji] using hlj))
  ·by_cases him : i = m
   ·subst him
    have hlm1 : l (i + 1) = false := by
     cases hq : l (i + 1) with
     | false => rfl
     | true => rw [hm1m hq] at hli; cases hli
    have : o = om := Option.some.inj (ho.symm.trans hom)
    subst this
    obtain ⟨h1, h2⟩ := hI hli
    intro K Q' hK
    exact hlast o ho vs W h1 (fun j hj => h2 j hj (hbelow hw j hj)) b hsee K Q' fun v W' hv => hK v W' ⟨hdc, fun hh => by simp at hh, fun _ _ => by simpa using hv, fun hh => by simp [hlm1] at hh⟩
   ·have hi1 : i = m + 1 := by omega
    subst hi1
    have : o = om1 := Option.some.inj (ho.symm.trans hom1)
    subst this
    have hlm : l m = true := hw m (by rw [hom1] at hall2; simpa using hall2)
    intro K Q' hK
    refine hlast2 o ho vs W (hJ hlm hli) b hsee K Q' fun v W' hv => hK v W' ⟨hdc, fun hh => by simp [hlm] at hh, fun _ hh => by simp at hh, fun _ => by simpa using hv⟩
 ·intro l vs W hl hI
  exact hend vs W (hI.2.2.2 (hl (m + 1) (by omega)))
/-- A drawn region that makes memory, whose values at S own new memory, each its own, and whose last two operations, behind all others, do whatever they do. -/
theorem weaveFresh_ {id : Nat} {a0 : Act} {w : World} (S : List Nat) (m : Nat) (hS : (S.all fun j => decide (j < m)) = true) (hm1 : ops.size = m + 2) (p : World → Prop) (hp : Lasts p) (h0 : p w) (ds : List (Tmp × Nat)) (Fs : List (Value → World → Prop)) (hm : P.follows .mixedOrders = true) (hB : weaveB ops ds = true) (hF : LastAll Fs)
  (hall : (match ops[m]? with | some o => (List.range m).all fun j => (reachW ops m (waitsOn o)).contains j | none => false) = true)
  (hall2 : (match ops[m + 1]? with | some o => (waitsOn o).contains m | none => false) = true)
  (hwait : ((List.range m).all fun i => match ops[i]? with | some o => (waitsOn o).all fun j => decide (j < m) | none => true) = true)
  (hstep : OpsAll (fun i o => i < m → ∀ vs W, p W → (∀ j ∈ waitsOn o, FAt Fs j (vs j) W) → ∀ b, Sees a0 ds o vs b → StepOK P ops o b W fun v W' => Below W.heap.size W W' ∧ FAt Fs i v W' ∧ (S.contains i = true → ∀ k, v.ownBlock = some k → W.heap.size ≤ k)) ops.toList 0)
  (hltS : ∀ j ∈ S, ∀ v W, FAt Fs j v W → ∀ k, v.ownBlock = some k → k < W.heap.size)
  (Ψ Φ : Value → World → Prop) (hlast : ∀ o, ops[m]? = some o → ∀ vs W, p W → (∀ j, j < m → FAt Fs j (vs j) W) → (∀ i ∈ S, ∀ j ∈ S, i ≠ j → ∀ k, (vs i).ownBlock = some k → (vs j).ownBlock ≠ some k) → ∀ b, Sees a0 ds o vs b → StepOK P ops o b W Ψ)
  (hlast2 : ∀ o, ops[m + 1]? = some o → ∀ vs W, Ψ (vs m) W → ∀ b, Sees a0 ds o vs b → StepOK P ops o b W Φ)
  (hend : ∀ (vs : Nat → Value) W, Φ (vs (m + 1)) W → Q .normal (putL a0 (ds.map fun q => (q.1, vs q.2))) W) : (Code.region id ops true).wp P Q a0 w := by
 refine weave (fun l vs W => (∀ (i : Nat) (o : Oper), ops[i]? = some o → l i = true → ∀ j ∈ waitsOn o, l j = true) ∧ (l m = false → (p W ∧ ∀ j, j < m → l j = true → FAt Fs j (vs j) W) ∧ (∀ i ∈ S, ∀ j ∈ S, i ≠ j → l i = true → l j = true → ∀ k, (vs i).ownBlock = some k → (vs j).ownBlock ≠ some k)) ∧ (l m = true → l (m + 1) = false → Ψ (vs m) W) ∧ (l (m + 1) = true → Φ (vs (m + 1)) W)) ds hm hB ?_ ?_ ?_
 ·exact ⟨(fun _ _ _ h => absurd h (by simp)), (fun _ => ⟨⟨hp _ _ (drew_below w) h0, (fun _ _ h => absurd h (by simp))⟩, fun _ _ _ _ _ h => absurd h (by simp)⟩), (fun h => absurd h (by simp)), (fun h => absurd h (by simp))⟩
 ·intro i o ho l vs W ⟨hc, hI, hJ, _⟩ hli hw b hsee
  have hlt := (Array.getElem?_eq_some_iff.1 ho).1
  have hom : ∃ o, ops[m]? = some o := ⟨ops[m], by simp [show m < ops.size by omega]⟩
  obtain ⟨om, hom⟩ := hom
  have hom1 : ∃ o, ops[m + 1]? = some o := ⟨ops[m + 1], by simp [show m + 1 < ops.size by omega]⟩
  obtain ⟨om1, hom1⟩ := hom1
  have hbelow : (∀ j ∈ waitsOn om, l j = true) → ∀ j, j < m → l j = true := fun hh j hj => by
   rw [hom] at hall
   exact reachW_all hc m _ hh j (by simpa using List.all_eq_true.1 hall j (List.mem_range.2 hj))
  have hm1m : l (m + 1) = true → l m = true := fun hh => hc _ _ hom1 hh m (by rw [hom1] at hall2; simpa using hall2)
  have hdc : ∀ (i' : Nat) (o' : Oper), ops[i']? = some o' → (i' == i || l i') = true → ∀ j ∈ waitsOn o', (j == i || l j) = true := by
   intro i' o' ho' hh j hj
   by_cases hii : i' = i
   ·subst hii
    have : o' = o := Option.some.inj (ho'.symm.trans ho)
    subst this
    simp [hw j hj]
   ·have : l i' = true := by simpa [hii] using hh
    simp [hc i' o' ho' this j hj]
  by_cases hin : i < m
  ·have hlm : l m = false := by
    cases hq : l m with
    | false => rfl
    | true => rw [hbelow (hc m om hom hq) i hin] at hli; cases hli
   have hlm1 : l (m + 1) = false := by
    cases hq : l (m + 1) with
    | false => rfl
    | true => rw [hm1m hq] at hlm; cases hlm
   obtain ⟨⟨h1, h2⟩, hap⟩ := hI hlm
   have hst := OpsAll.at ops.toList 0 hstep i o (by rw [Array.getElem?_toList]; exact ho)
   rw [Nat.zero_add] at hst
   have hmi : (m == i) = false := by simp; omega
   have hmi1 : (m + 1 == i) = false := by simp; omega
   intro K Q' hK
   refine hst hin vs W h1 (fun j hj => ?_) b hsee K Q' fun v W' hv => hK v W' ⟨hdc, fun _ => ⟨⟨hp _ _ hv.1 h1, fun j hj hlj => ?_⟩, fun x hx y hy hxy hlx hly k hk => ?_⟩, fun hh => by simp [hmi, hlm] at hh, fun hh => by simp [hmi1, hlm1] at hh⟩
   ·have hjm : j < m := by
     have := List.all_eq_true.1 hwait i (List.mem_range.2 hin)
     rw [ho] at this
     simpa using List.all_eq_true.1 this j hj
    exact h2 j hjm (hw j hj)
   ·by_cases hji : j = i
    ·subst hji
     simpa using hv.2.1
    ·simp only [hji, if_false]
     exact FAt.last Fs hF j _ _ _ hv.1 (h2 j hj (by simpa [hji] using hlj))
   ·have hxm : x < m := of_decide_eq_true (List.all_eq_true.1 hS x hx)
    have hym : y < m := of_decide_eq_true (List.all_eq_true.1 hS y hy)
    by_cases hxi : x = i
    ·have hyi : y ≠ i := fun e => hxy (hxi.trans e.symm)
     simp only [hxi, if_true] at hk
     simp only [hyi, if_false]
     intro hk'
     have q1 := hv.2.2 (by rw [← hxi]; exact List.contains_iff_mem.2 hx) k hk
     have q2 := hltS y hy _ _ (h2 y hym (by simpa [hyi] using hly)) k hk'
     omega
    ·simp only [hxi, if_false] at hk
     by_cases hyi : y = i
     ·simp only [hyi, if_true]
      intro hk'
      have q1 := hv.2.2 (by rw [← hyi]; exact List.contains_iff_mem.2 hy) k hk'
      have q2 := hltS x hx _ _ (h2 x hxm (by simpa [hxi] using hlx)) k hk
      omega
     ·simp only [hyi, if_false]
      exact hap x hx y hy hxy (by simpa [hxi] using hlx) (by simpa [hyi] using hly) k hk
  ·by_cases him : i = m
   ·subst him
    have hlm1 : l (i + 1) = false := by
     cases hq : l (i + 1) with
     | false => rfl
     | true => rw [hm1m hq] at hli; cases hli
    have : o = om := Option.some.inj (ho.symm.trans hom)
    subst this
    obtain ⟨⟨h1, h2⟩, hap⟩ := hI hli
    intro K Q' hK
    exact hlast o ho vs W h1 (fun j hj => h2 j hj (hbelow hw j hj)) (fun x hx y hy hxy => hap x hx y hy hxy (hbelow hw x (of_decide_eq_true (List.all_eq_true.1 hS x hx))) (hbelow hw y (of_decide_eq_true (List.all_eq_true.1 hS y hy)))) b hsee K Q' fun v W' hv => hK v W' ⟨hdc, fun hh => by simp at hh, fun _ _ => by simpa using hv, fun hh => by simp [hlm1] at hh⟩
   ·have hi1 : i = m + 1 := by omega
    subst hi1
    have : o = om1 := Option.some.inj (ho.symm.trans hom1)
    subst this
    have hlm : l m = true := hw m (by rw [hom1] at hall2; simpa using hall2)
    intro K Q' hK
    refine hlast2 o ho vs W (hJ hlm hli) b hsee K Q' fun v W' hv => hK v W' ⟨hdc, fun hh => by simp [hlm] at hh, fun _ hh => by simp at hh, fun _ => by simpa using hv⟩
 ·intro l vs W hl hI
  exact hend vs W (hI.2.2.2 (hl (m + 1) (by omega)))
end
end Go.Proofs.YtendbgedpjcocaaGreatDoor.B
/- impl's runner: one number put, one of the fuel taken. -/
namespace Go.Proofs.YtendbgedpjcocaaGreatDoor.B
open Go Go.RowKit Go.Shelf Go.Proofs.YtendbgedpjcocaaGreatDoorW.PrintWords Go.Proofs.YtendbgedpjcocaaGreatDoorW.PrintLast Go.Proofs.YtendbgedpjcocaaGreatDoorW.PrintMore
set_option linter.unusedVariables false

theorem mem_set {bs : List Int} (i : Nat) (n : Int) : ((bs.map (Value.int .i64)).toArray.setIfInBounds i (.int .i64 n)) = ((bs.set i n).map (Value.int .i64)).toArray := by
 apply Array.ext'
 rw [Array.toList_setIfInBounds]
 simp only [List.map_set]
theorem putB_len (bs : List Int) (k a n : Int) : (putB bs k a n).length = bs.length := by unfold putB; split <;> simp
set_option maxRecDepth 100000 in
set_option maxHeartbeats 4000000 in
theorem put_any (F : Nat → Prop) (g : Nat) (hF : F g) (bs : List Int) (k a n : Int) (w : World) (hm : MemAt w g bs) :
  Calls Tryz.prog 46 #[.pointer (some ⟨g, 0, none⟩), .agg #[.int .i64 k, .int .i64 a], .int .i64 n] w fun e w' => e = .returned (.tuple #[]) ∧ MemAt w' g (putB bs k a n) ∧ Ed F w w' := by
 have hb0 := heap_alloc_new w (.cells #[.int .i64 k, .int .i64 a] 24)
 have hB0 : Below w.heap.size w (w.alloc (.cells #[.int .i64 k, .int .i64 a] 24)) := (Below.refl _ _).alloc (Nat.le_refl _) _
 have HM := Aside0.mk (And.intro hm (And.intro hb0 (And.intro hB0 hF)))
 clear hm hb0 hB0 hF
 go_enter Tryz.func46, Tryz.ntmps46
 go_wp2_with fail
 refine (impl_puts.calls k a _ _ (puts_is k a)).mono ?_
 rintro e w1 ⟨rfl, hb1⟩
 have k1 := (hb1.block _ (blk_lt HM.out.2.1)).trans HM.out.2.1
 have c0 : w1.cell? ⟨w.heap.size, 0, none⟩ = some (.int .i64 k) := by rw [blk_cell k1]; rfl
 have c1 : w1.cell? ⟨w.heap.size, 1, none⟩ = some (.int .i64 a) := by rw [blk_cell k1]; rfl
 have HB := Aside0.mk (HM.out.2.2.1.trans (hb1.mono HM.out.2.2.1.size))
 clear hb1 k1
 cases hv : putsL k a with
 | false =>
  have HV := Aside0.mk hv
  clear hv
  go_wp2
  refine bodyPost_end (results_none rfl _ _ _) rfl ?_
  exact ⟨rfl, by rw [putB, if_neg (by rw [HV.out]; simp)]; exact HM.out.1.below HB.out, Ed.of_below HB.out⟩
 | true =>
  have hA : addrOkL k a = true := by unfold putsL at hv; simp only [Bool.and_eq_true] at hv; exact hv.1
  obtain ⟨hk, ha⟩ := addr_cases hA
  have hlt : ((k - 1) * 6 + a).toNat < 18 := by omega
  have HV := Aside0.mk (And.intro hv (And.intro hA hlt))
  clear hv hA hk ha hlt
  go_wp2_with fail
  refine (place_any g k a w1 HV.out.2.1).mono ?_
  rintro e w2 ⟨rfl, hb2⟩
  have HB2 := Aside0.mk (HB.out.trans (hb2.mono HB.out.size))
  clear hb2 c0 c1
  go_wp2_with fail
  refine (impl_NumCut.calls n (cutL n) w2 (cutI n)).mono ?_
  rintro e w3 ⟨rfl, hb3⟩
  have HB3 := Aside0.mk (HB2.out.trans (hb3.mono HB2.out.size))
  clear hb3
  have h3 := HM.out.1.below HB3.out
  obtain ⟨i, hi⟩ : ∃ i, i = ((k - 1) * 6 + a).toNat := ⟨_, rfl⟩
  have c2 := h3.cell _ (show i < 18 by rw [hi]; exact HV.out.2.2)
  have f2 : w3.frozen? ⟨g, i, none⟩ = false := blk_frozen h3.b i
  rw [← hi]
  have HI := Aside0.mk (And.intro hi h3)
  clear hi h3
  go_wp2
  refine bodyPost_end (results_none rfl _ _ _) rfl ?_
  have hi18 : i < 18 := by rw [HI.out.1]; exact HV.out.2.2
  have hcur : ((bs.map (Value.int .i64)).toArray)[i]? = some (.int .i64 (bs.getD i 0)) := by
   have := HI.out.2.n
   simp [List.getD_eq_getElem?_getD, List.getElem?_eq_getElem (show i < bs.length by omega)]
  refine ⟨rfl, ⟨?_, by rw [putB_len]; exact HI.out.2.n⟩, (Ed.of_below HB3.out).trans (Ed.set HM.out.2.2.2 HI.out.2.b i _ hcur _)⟩
  rw [putB, if_pos HV.out.1, ← HI.out.1, ← mem_set]
  exact blk_set HI.out.2.b i _
/-- A runner: its memory's numbers, its fuel. -/
structure RunAt (w : World) (gr gm : Nat) (bs : List Int) (f : Int) : Prop where
 m : MemAt w gm bs
 r : w.heap[gr]? = some (.cells #[.pointer (some ⟨gm, 0, none⟩), .int .i64 f] 69 (0, 0))
theorem RunAt.below {w w' : World} {gr gm : Nat} {bs : List Int} {f : Int} (h : RunAt w gr gm bs f) (hb : Below w.heap.size w w') : RunAt w' gr gm bs f := ⟨h.m.below hb, blk_below h.r hb⟩
/-- What a run may write over. -/
def Fm (gr gm : Nat) (b : Nat) : Prop := b = gr ∨ b = gm
set_option maxRecDepth 100000 in
theorem take_none (gr gm : Nat) (bs : List Int) (a : Addr) (w : World) (h : RunAt w gr gm bs 0) (he : ErrAt w a) :
  Calls Tryz.prog 124 #[.pointer (some ⟨gr, 0, none⟩)] w fun e w' => e = .returned (errOf a 1) ∧ w' = w := by
 have c1 : w.cell? ⟨gr, 1, none⟩ = some (.int .i64 0) := by rw [blk_cell h.r]; rfl
 have ce : w.cell? ⟨0, 0, none⟩ = some (.iface 156 (.pointer (some a))) := he
 clear h he
 go_enter Tryz.func124, Tryz.ntmps124
 go_wp2
 go_ret
 exact ⟨rfl, rfl⟩
set_option maxRecDepth 100000 in
theorem take_some (gr gm : Nat) (hne : gr ≠ gm) (bs : List Int) (f : Int) (w : World) (h : RunAt w gr gm bs f) (h0 : 0 < f) (h1 : f ≤ 100) :
  Calls Tryz.prog 124 #[.pointer (some ⟨gr, 0, none⟩)] w fun e w' => e = .returned .nilIface ∧ RunAt w' gr gm bs (f - 1) ∧ Ed (Fm gr gm) w w' := by
 have c1 : w.cell? ⟨gr, 1, none⟩ = some (.int .i64 f) := by rw [blk_cell h.r]; rfl
 have f1 : w.frozen? ⟨gr, 1, none⟩ = false := blk_frozen h.r 1
 have b0 : (f == 0) = false := beq_false_of_ne (by omega)
 have wf : IntKind.i64.wrap (f - 1) = f - 1 := by rw [IntKind.wrap_i64]; omega
 have HH := Aside0.mk (And.intro h hne)
 clear h hne h0 h1
 go_enter Tryz.func124, Tryz.ntmps124
 go_wp2
 go_ret
 refine ⟨rfl, ⟨⟨(Below.heap_setCell w _ _ gm (fun e => HH.out.2 e.symm)).trans HH.out.1.m.b, HH.out.1.m.n⟩, ?_⟩, Ed.set (.inl rfl) HH.out.1.r 1 f rfl _⟩
 exact (blk_set HH.out.1.r 1 _).trans rfl
end Go.Proofs.YtendbgedpjcocaaGreatDoor.B
/- impl.StmtsOk and impl.StmtsMany, over count. -/
namespace Go.Proofs.YtendbgedpjcocaaGreatDoor.B
open Go.RowKit Go.Shelf Go.Proofs.YtendbgedpjcocaaGreatDoorW.PrintWords Go.Proofs.YtendbgedpjcocaaGreatDoorW.PrintLast Go.Proofs.YtendbgedpjcocaaGreatDoorW.PrintMore
set_option linter.unusedVariables false
theorem count_all (hok : OkCon) : ∀ d, d ≤ 4 → CntCon d := by
 intro d
 induction d with
 | zero => exact fun hd => count_step hok 0 hd (fun d' h => absurd h (by omega))
 | succ d ih => exact fun hd => count_step hok (d + 1) hd (fun d' h => by have := ih (by omega); cases (show d = d' by omega); exact this)
set_option maxRecDepth 100000 in
set_option maxHeartbeats 4000000 in
theorem stmtsOk_of (hok : OkCon) (A0 : Option Addr) (c0 : Nat) (l0 : List S35) (w : World) (hr0 : Kd.C k35 w A0 l0.length l0) (hc0 : l0.length ≤ c0) :
  Calls Tryz.prog 36 #[.slice A0 l0.length c0] w fun e w' => e = .returned (.bool (countL 4 l0 0).1) ∧ Below w.heap.size w w' := by
 have HCALL := Aside0.mk (count_all hok 4 (by omega) l0 A0 c0 w.heap.size 0 0 w (w.alloc (.cells #[.int .i64 0] 3)) (by rfl) (by omega) (by omega) (Nat.le_refl _) (Boxed.new w _ _) ((Below.refl _ _).alloc (Nat.le_refl _) _) hr0 hc0)
 clear hr0 hc0
 go_enter Tryz.func36, Tryz.ntmps36
 go_wp2_with fail
 refine HCALL.out.mono ?_
 rintro e w1 ⟨rfl, _, hB, _⟩
 have HB := Aside0.mk hB
 clear hB HCALL
 go_wp2
 go_ret
 exact ⟨rfl, HB.out⟩
end Go.Proofs.YtendbgedpjcocaaGreatDoor.B
/- Plain law: what the specification's StmtsOk and StmtsMany say (the first half of XPureStOk: never import both). -/
namespace Go.Proofs.YtendbgedpjcocaaGreatDoor.B
open Go.RowKit Go.Proofs.YtendbgedpjcocaaGreatDoorW.PrintWords Go.Proofs.YtendbgedpjcocaaGreatDoorW.PrintLast Go.Proofs.YtendbgedpjcocaaGreatDoorW.PrintMore
set_option linter.unusedVariables false

theorem short_of (e : S27) : iexOk e → Short e := by
 refine iexInd (P := fun e => iexOk e → Short e) ?_ e
 intro e ih ho
 rw [iexOk_eq] at ho
 exact Short.mk e (by omega) (fun x hx => ih x hx (ho.2 x hx))
theorem spec_stOk (l : List ISt) (h1 : manyT 4 l ≤ 1048576) (h2 : ∀ s ∈ l, istOk s) : Ends (fun k => spec_StmtsOk.f k l) (countL 4 l 0).1 := by
 rw [stOk_is, Bool.and_comm]
 have hm := manyT_spec 4 (by omega) l h1
 have hf := formT_spec 4 (by omega) l h1 h2 (fun s hs => short_of s.f2 ((istOk_eq s).1 hs).1)
 refine (hm.bind (g := fun k t => if t ≤ 16 then (spec_l4Form.f k l 4).bind fun t => some t else some false) ?_).of fun k => by rw [spec_StmtsOk.f]; rfl
 by_cases h : manyT 4 l ≤ 16
 ·rw [decide_eq_true h, Bool.true_and]
  refine (hf.bind (g := fun _ t => some t) (Ends.const fun k => rfl)).of fun k => by rw [if_pos (by omega)]; rfl
 ·rw [decide_eq_false h, Bool.false_and]
  exact Ends.const fun k => by rw [if_neg (by omega)]
end Go.Proofs.YtendbgedpjcocaaGreatDoor.B
/- impl.ExprOf, in the print's form. -/
namespace Go.Proofs.YtendbgedpjcocaaGreatDoor.B
open Go.RowKit Go.Proofs.YtendbgedpjcocaaGreatDoorW.PrintWords Go.Proofs.YtendbgedpjcocaaGreatDoorW.PrintLast Go.Proofs.YtendbgedpjcocaaGreatDoorW.PrintMore
set_option linter.unusedVariables false

def impl_ExprOf.f (a0_0 : Int) (a0_1 : Int) (a0_2 : Int) (a0_3 : Int) (l0_4 : List (S27)) (l1_0 : List Int) (l1_1 : List Int) (l1_2 : List Int) : Option Int :=
 some (ofV ⟨a0_0, a0_1, ⟨a0_2, a0_3⟩, l0_4⟩ l1_0 l1_1 l1_2)
theorem impl_ExprOf.calls (a0_0 : Int) (a0_1 : Int) (a0_2 : Int) (a0_3 : Int) (A0_4 : Option Addr) (c0_4 : Nat) (l0_4 : List (S27)) (A1_0 : Option Addr) (c1_0 : Nat) (l1_0 : List Int) (A1_1 : Option Addr) (c1_1 : Nat) (l1_1 : List Int) (A1_2 : Option Addr) (c1_2 : Nat) (l1_2 : List Int) (r : Int) (w : World)
  (hr0_4 : Kd.C k27 w A0_4 l0_4.length l0_4) (hc0_4 : l0_4.length ≤ c0_4) (hr1_0 : Kd.C (Kd.int .i64) w A1_0 l1_0.length l1_0) (hc1_0 : l1_0.length ≤ c1_0) (hr1_1 : Kd.C (Kd.int .i64) w A1_1 l1_1.length l1_1) (hc1_1 : l1_1.length ≤ c1_1) (hr1_2 : Kd.C (Kd.int .i64) w A1_2 l1_2.length l1_2) (hc1_2 : l1_2.length ≤ c1_2)
  (h : impl_ExprOf.f a0_0 a0_1 a0_2 a0_3 l0_4 l1_0 l1_1 l1_2 = some r) :
  Calls Tryz.prog 19 #[.agg #[.int .i64 a0_0, .int .i64 a0_1, .int .i64 a0_2, .int .i64 a0_3, .slice A0_4 l0_4.length c0_4], .agg #[.slice A1_0 l1_0.length c1_0, .slice A1_1 l1_1.length c1_1, .slice A1_2 l1_2.length c1_2]] w fun e w' => e = .returned (.int .i64 r) ∧ Below w.heap.size w w' := by
 obtain rfl := Option.some.inj h
 exact exprOf_any okCon ⟨a0_0, a0_1, ⟨a0_2, a0_3⟩, l0_4⟩ A0_4 c0_4 l1_0 l1_1 l1_2 A1_0 A1_1 A1_2 c1_0 c1_1 c1_2 w hr0_4 hc0_4 hr1_0 hr1_1 hr1_2 hc1_0 hc1_1 hc1_2
end Go.Proofs.YtendbgedpjcocaaGreatDoor.B
/- impl.StmtsOk, in the print's form. -/
namespace Go.Proofs.YtendbgedpjcocaaGreatDoor.B
open Go.RowKit Go.Shelf Go.Proofs.YtendbgedpjcocaaGreatDoorW.PrintWords Go.Proofs.YtendbgedpjcocaaGreatDoorW.PrintLast Go.Proofs.YtendbgedpjcocaaGreatDoorW.PrintMore
set_option linter.unusedVariables false

def impl_StmtsOk.f (l0 : List S35) : Option Bool := some (countL 4 l0 0).1
theorem impl_StmtsOk.calls (A0 : Option Addr) (c0 : Nat) (l0 : List S35) (r : Bool) (w : World) (hr0 : Kd.C k35 w A0 l0.length l0) (hc0 : l0.length ≤ c0) (h : impl_StmtsOk.f l0 = some r) :
  Calls Tryz.prog 36 #[.slice A0 l0.length c0] w fun e w' => e = .returned (.bool r) ∧ Below w.heap.size w w' := by
 obtain rfl := Option.some.inj h
 exact stmtsOk_of (fun e A c w hC hc => exprOk_any e A c w hC hc) A0 c0 l0 w hr0 hc0
end Go.Proofs.YtendbgedpjcocaaGreatDoor.B
