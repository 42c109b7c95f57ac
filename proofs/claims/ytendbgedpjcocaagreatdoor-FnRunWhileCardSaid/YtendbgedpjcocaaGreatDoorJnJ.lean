import Derived.Test.YtendbgedpjcocaaGreatDoorJnF
import Derived.Test.YtendbgedpjcocaaGreatDoorJnB
import Derived.Test.YtendbgedpjcocaaGreatDoorPkA
import Derived.Test.YtendbgedpjcocaaGreatDoorPkB
import Derived.Test.YtendbgedpjcocaaGreatDoorJnD
/- Expressions of the laws and of the program: bounds, inductions, rows. -/
namespace Go.Proofs.YtendbgedpjcocaaGreatDoor.B
open Go.RowKit Go.Proofs.YtendbgedpjcocaaGreatDoorW.PrintWords Go.Proofs.YtendbgedpjcocaaGreatDoorW.PrintLast Go.Proofs.YtendbgedpjcocaaGreatDoorW.PrintMore
set_option linter.unusedVariables false

abbrev LExT := S27
def iexOk : S27 → Prop
 | ⟨_, _, _, l⟩ => l.length ≤ 1048576 ∧ ∀ x ∈ l.attach, iexOk x.1
termination_by e => SizeOf.sizeOf e
decreasing_by have := List.sizeOf_lt_of_mem x.2; simp; omega
theorem iexOk_eq (e : S27) : iexOk e ↔ e.f3.length ≤ 1048576 ∧ ∀ x ∈ e.f3, iexOk x := by
 cases e with
 | mk a b c l => rw [iexOk]; simp
theorem iexInd {P : S27 → Prop} (h : ∀ e : S27, (∀ x ∈ e.f3, P x) → P e) : ∀ e, P e
 | ⟨a, b, c, l⟩ => h _ (fun x hx => iexInd h x)
termination_by e => SizeOf.sizeOf e
decreasing_by have := List.sizeOf_lt_of_mem hx; simp at this ⊢; omega
theorem mem_sum : ∀ (l : List Nat) (x : Nat), x ∈ l → x ≤ l.sum
 | [], x, h => by simp at h
 | a :: l, x, h => by
  rw [List.sum_cons]
  rcases List.mem_cons.mp h with rfl | h
  ·omega
  ·have := mem_sum l x h; omega
end Go.Proofs.YtendbgedpjcocaaGreatDoor.B
/- Statements of the laws and of the program: bounds, inductions, rows. -/
namespace Go.Proofs.YtendbgedpjcocaaGreatDoor.B
open Go.RowKit Go.Proofs.YtendbgedpjcocaaGreatDoorW.PrintWords Go.Proofs.YtendbgedpjcocaaGreatDoorW.PrintLast Go.Proofs.YtendbgedpjcocaaGreatDoorW.PrintMore
set_option linter.unusedVariables false

abbrev LSt := S35
abbrev ISt := S35
def istOk : ISt → Prop
 | ⟨_, _, c, l, l'⟩ => iexOk c ∧ (l.length ≤ 1048576 ∧ ∀ x ∈ l.attach, istOk x.1) ∧ (l'.length ≤ 1048576 ∧ ∀ x ∈ l'.attach, istOk x.1)
termination_by e => SizeOf.sizeOf e
decreasing_by all_goals (have := List.sizeOf_lt_of_mem x.2; simp; omega)
theorem istOk_eq (e : ISt) : istOk e ↔ iexOk e.f2 ∧ (e.f3.length ≤ 1048576 ∧ ∀ x ∈ e.f3, istOk x) ∧ (e.f4.length ≤ 1048576 ∧ ∀ x ∈ e.f4, istOk x) := by
 cases e with
 | mk a b c l l' => rw [istOk]; simp
theorem rdI_st (l : List ISt) (j : Nat) (h : j < l.length) : rd_T35 l (j : Int) = l[j] := by simp [rd_T35, h]
end Go.Proofs.YtendbgedpjcocaaGreatDoor.B
/- Plain law: the specification's own reckoning of StmtsOk and StmtsMany ends, and says what count says. -/
namespace Go.Proofs.YtendbgedpjcocaaGreatDoor.B
open Go.RowKit Go.Proofs.YtendbgedpjcocaaGreatDoorW.PrintWords Go.Proofs.YtendbgedpjcocaaGreatDoorW.PrintLast Go.Proofs.YtendbgedpjcocaaGreatDoorW.PrintMore
set_option linter.unusedVariables false

theorem Ends.of_up {α : Type} {f : Nat → Option α} {r : α} (hm : ∀ k, LeO (f k) (f (k + 1))) (h : ∃ k, f k = some r) : Ends f r := by
 obtain ⟨k, hk⟩ := h
 exact ⟨k, fun k' hk' => up_le hm hk' hk⟩
theorem and_part {f g : Nat → Option Bool} {a b : Bool} (hf : Ends f a) (hg : a = true → Ends g b) : Ends (fun k => (f k).bind fun t => if t = true then g k else some false) (a && b) := by
 refine hf.bind (g := fun k t => if t = true then g k else some false) ?_
 cases a with
 | false => exact Ends.const fun k => rfl
 | true => exact (hg rfl).of fun k => by rw [if_pos rfl]
/-- How many statements there are, up to so deep. -/
def manyT : Nat → List ISt → Nat
 | 0, l => l.length
 | d + 1, l => l.length + (l.map fun s => manyT d s.f3 + manyT d s.f4).sum
def formT : Nat → List ISt → Bool
 | 0, l => l.isEmpty
 | d + 1, l => l.all fun s => headSt s && (formT d s.f3 && formT d s.f4)
theorem many0_stop (k : Nat) (l : List ISt) (hl : l.length ≤ 9223372036854775807) : spec_l4Many.f (k + 3) l 0 = some (l.length : Int) := by
 rw [spec_l4Many.f, spec_l4Many.l0]
 by_cases h : (0 : Int) < (l.length : Int)
 ·rw [if_pos h, decide_eq_false (by omega), spec_l4Many.j1, if_neg (by simp)]
 ·rw [if_neg h, spec_l4Many.j1, if_neg (by simp)]
theorem many_loopT (d : Nat) (hd : d ≤ 100) (l : List ISt) (hl : l.length ≤ 1048576) (ih : ∀ s ∈ l, manyT d s.f3 + manyT d s.f4 ≤ 1048576 → Ends (fun k => spec_l4Many.f k s.f3 (d : Int)) (manyT d s.f3 : Int) ∧ Ends (fun k => spec_l4Many.f k s.f4 (d : Int)) (manyT d s.f4 : Int)) :
  ∀ (e j : Nat) (n : Nat), j + e = l.length → n + ((l.drop j).map fun s => manyT d s.f3 + manyT d s.f4).sum ≤ 1048576 → Ends (fun k => spec_l4Many.l0 k l ((d + 1 : Nat) : Int) (n : Int) j) ((n + ((l.drop j).map fun s => manyT d s.f3 + manyT d s.f4).sum : Nat) : Int) := by
 intro e
 induction e with
 | zero =>
  intro j n hj hn
  refine Ends.succ (fun k => by rw [spec_l4Many.l0, if_neg (by omega)]) ?_
  refine Ends.succ (fun k => by rw [spec_l4Many.j1, if_neg (by simp)]) (Ends.const fun k => ?_)
  rw [List.drop_of_length_le (by omega)]; simp
 | succ e ihe =>
  intro j n hj hn
  have hjl : j < l.length := by omega
  have hdr : l.drop j = l[j] :: l.drop (j + 1) := List.drop_eq_getElem_cons hjl
  rw [hdr, List.map_cons, List.sum_cons] at hn ⊢
  refine Ends.succ (fun k => by rw [spec_l4Many.l0, if_pos (by omega), decide_eq_true (by omega)]) ?_
  refine Ends.succ (fun k => by rw [spec_l4Many.j1, if_pos rfl, if_pos (by omega), if_pos (by omega), rdI_st l j hjl, show wrap64 (((d + 1 : Nat) : Int) - 1) = (d : Int) by rw [wrap_in (by omega) (by omega)]; omega]) ?_
  obtain ⟨h3, h4⟩ := ih l[j] (List.getElem_mem hjl) (by omega)
  refine Ends.bind h3 (Ends.bind h4 ?_)
  have := ihe (j + 1) (n + (manyT d l[j].f3 + manyT d l[j].f4)) (by omega) (by omega)
  rw [Nat.add_assoc] at this
  refine this.of fun k => ?_
  rw [show wrap64 ((n : Int) + (manyT d l[j].f3 : Int)) = (n : Int) + (manyT d l[j].f3 : Int) from wrap_in (by omega) (by omega), show wrap64 ((n : Int) + (manyT d l[j].f3 : Int) + (manyT d l[j].f4 : Int)) = (n : Int) + (manyT d l[j].f3 : Int) + (manyT d l[j].f4 : Int) from wrap_in (by omega) (by omega), show wrap64 ((j : Int) + 1) = ((j + 1 : Nat) : Int) by rw [wrap_in (by omega) (by omega)]; omega]
  congr 1
  omega
theorem manyT_spec (d : Nat) : d ≤ 100 → ∀ l : List ISt, manyT d l ≤ 1048576 → Ends (fun k => spec_l4Many.f k l (d : Int)) (manyT d l : Int) := by
 induction d with
 | zero =>
  intro _ l hl
  rw [manyT] at *
  exact ⟨3, fun k hk => by obtain ⟨k', rfl⟩ : ∃ k', k = k' + 3 := ⟨k - 3, by omega⟩; exact many0_stop k' l (by omega)⟩
 | succ d ih =>
  intro hd l hl
  rw [manyT] at hl ⊢
  refine Ends.succ (fun k => by rw [spec_l4Many.f]) ?_
  have := many_loopT d (by omega) l (by omega) (fun s hs h => ⟨ih (by omega) s.f3 (by omega), ih (by omega) s.f4 (by omega)⟩) l.length 0 l.length (by omega) (by rw [List.drop_zero]; exact hl)
  rw [List.drop_zero] at this
  exact this
/-- One round of l4Form. -/
theorem form_headT (k : Nat) (l : List ISt) (x1 : Int) (j : Nat) (hj : j < l.length) : spec_l4Form.l0 (k + 1) l x1 (j : Int) = spec_l4Form.j2 k l x1 j (plainL l[j]) l[j].f0 l[j].f1.f0 l[j].f1.f1 l[j].f2.f0 l[j].f2.f1 l[j].f2.f2.f0 l[j].f2.f2.f1 l[j].f2.f3 l[j].f3 l[j].f4 := by
 rw [spec_l4Form.l0, if_pos (by omega), if_pos (by omega), rdI_st l j hj]
 generalize l[j] = s
 have hlen3 : ((s.f3.length : Int) == 0) = (s.f3.length == 0) := by rw [Bool.eq_iff_iff, beq_iff_eq, beq_iff_eq]; omega
 have hlen4 : ((s.f4.length : Int) == 0) = (s.f4.length == 0) := by rw [Bool.eq_iff_iff, beq_iff_eq, beq_iff_eq]; omega
 unfold plainL putsL
 simp only [addrOk_is, Option.bind_some]
 by_cases h1 : s.f0 = 1
 ·rw [if_pos h1, if_pos h1]
  cases ha : addrOkL s.f1.f0 s.f1.f1 with
  | false => rw [if_neg (by simp)]; simp
  | true =>
   rw [if_pos rfl]
   by_cases h2 : s.f1.f0 = 1
   ·rw [if_pos h2, h2]; simp
   ·rw [if_neg h2]
    by_cases h3 : s.f3.length = 0
    ·rw [if_pos (by omega), hlen4, h3, show (s.f1.f0 != 1) = true from bne_iff_ne.mpr h2]; simp
    ·rw [if_neg (by omega), show (s.f3.length == 0) = false from beq_false_of_ne h3]; simp
 ·rw [if_neg h1, if_neg h1]
  by_cases h2 : s.f0 = 2
  ·rw [if_pos h2, if_pos h2]
  ·rw [if_neg h2, if_neg h2]
   by_cases h3 : s.f0 = 3
   ·rw [if_pos h3, if_pos h3]
    cases hz : (s.f1.f0 == 0 && s.f1.f1 == 0) with
    | false => simp
    | true => simp [hlen4]
   ·rw [if_neg h3, if_neg h3]
theorem form_loopT (d : Nat) (hd : d ≤ 100) (l : List ISt) (hl : l.length ≤ 1048576) (hs : ∀ s ∈ l, Short s.f2) (ih : ∀ s ∈ l, Ends (fun k => spec_l4Form.f k s.f3 (d : Int)) (formT d s.f3) ∧ Ends (fun k => spec_l4Form.f k s.f4 (d : Int)) (formT d s.f4)) :
  ∀ (e j : Nat), j + e = l.length → Ends (fun k => spec_l4Form.l0 k l ((d + 1 : Nat) : Int) j) ((l.drop j).all fun s => headSt s && (formT d s.f3 && formT d s.f4)) := by
 intro e
 induction e with
 | zero =>
  intro j hj
  refine Ends.succ (fun k => by rw [spec_l4Form.l0, if_neg (by omega)]) (Ends.const fun k => ?_)
  rw [List.drop_of_length_le (by omega)]; rfl
 | succ e ihe =>
  intro j hj
  have hjl : j < l.length := by omega
  have hdr : l.drop j = l[j] :: l.drop (j + 1) := List.drop_eq_getElem_cons hjl
  rw [hdr, List.all_cons]
  refine Ends.succ (fun k => form_headT k l _ j hjl) ?_
  obtain ⟨h3, h4⟩ := ih l[j] (List.getElem_mem hjl)
  refine Ends.succ (fun k => by rw [spec_l4Form.j2, show wrap64 (((d + 1 : Nat) : Int) - 1) = (d : Int) by rw [wrap_in (by omega) (by omega)]; omega, show wrap64 ((j : Int) + 1) = ((j + 1 : Nat) : Int) by rw [wrap_in (by omega) (by omega)]; omega]) ?_
  cases hp : plainL l[j] with
  | false =>
   refine Ends.const fun k => ?_
   rw [if_neg (by simp), headSt, hp]; simp
  | true =>
   have hx := Ends.of_up (f := fun k => spec_ExprOk.f k l[j].f2.f0 l[j].f2.f1 l[j].f2.f2.f0 l[j].f2.f2.f1 l[j].f2.f3) (fun k => spec_ExprOk.mono _ _ _ _ _ k) (exprOk_spec l[j].f2 (hs l[j] (List.getElem_mem hjl)))
   rw [headSt, hp, Bool.true_and, okL_eq, Bool.and_assoc, Bool.and_assoc]
   rw [show (formS 6 l[j].f2 && (decide (manyS 6 l[j].f2 ≤ 14) && (formT d l[j].f3 && formT d l[j].f4 && (l.drop (j + 1)).all fun s => headSt s && (formT d s.f3 && formT d s.f4)))) = ((formS 6 l[j].f2 && decide (manyS 6 l[j].f2 ≤ 14)) && (formT d l[j].f3 && (formT d l[j].f4 && (l.drop (j + 1)).all fun s => headSt s && (formT d s.f3 && formT d s.f4)))) by simp only [Bool.and_assoc]]
   refine (and_part hx fun _ => and_part h3 fun _ => and_part h4 fun _ => ihe (j + 1) (by omega)).of fun k => ?_
   rw [if_pos rfl]
theorem formT_spec (d : Nat) : d ≤ 100 → ∀ l : List ISt, manyT d l ≤ 1048576 → (∀ s ∈ l, istOk s) → (∀ s : ISt, istOk s → Short s.f2) → Ends (fun k => spec_l4Form.f k l (d : Int)) (formT d l) := by
 induction d with
 | zero =>
  intro _ l hl ho hsh
  refine Ends.succ (fun k => by rw [spec_l4Form.f]) ?_
  cases l with
  | nil => exact ⟨2, fun k hk => by obtain ⟨k', rfl⟩ : ∃ k', k = k' + 2 := ⟨k - 2, by omega⟩; show (if (([] : List ISt).length : Int) > 0 then _ else spec_l4Form.j0 (k' + 2) [] 0 false) = _; rw [if_neg (by simp), spec_l4Form.j0, if_neg (by simp), spec_l4Form.l0, if_neg (by simp)]; rfl⟩
  | cons a l => exact ⟨1, fun k hk => by obtain ⟨k', rfl⟩ : ∃ k', k = k' + 1 := ⟨k - 1, by omega⟩; show (if ((a :: l).length : Int) > 0 then spec_l4Form.j0 (k' + 1) (a :: l) 0 (decide ((0 : Int) < 1)) else _) = _; rw [if_pos (by simp), spec_l4Form.j0, if_pos (by simp)]; rfl⟩
 | succ d ih =>
  intro hd l hl ho hsh
  have hkid : ∀ s ∈ l, manyT d s.f3 + manyT d s.f4 ≤ 1048576 := fun s hs => by
   have : manyT d s.f3 + manyT d s.f4 ≤ (l.map fun s => manyT d s.f3 + manyT d s.f4).sum := mem_sum _ _ (List.mem_map_of_mem (f := fun s => manyT d s.f3 + manyT d s.f4) hs)
   rw [manyT] at hl
   omega
  have hll : l.length ≤ 1048576 := by rw [manyT] at hl; omega
  have hlo := form_loopT d (by omega) l hll (fun s hs => hsh s (ho s hs)) (fun s hs => ⟨ih (by omega) s.f3 (by have := hkid s hs; omega) ((istOk_eq s).1 (ho s hs)).2.1.2 hsh, ih (by omega) s.f4 (by have := hkid s hs; omega) ((istOk_eq s).1 (ho s hs)).2.2.2 hsh⟩) l.length 0 (by omega)
  rw [List.drop_zero] at hlo
  rw [formT]
  refine Ends.succ (g := fun k => spec_l4Form.j0 k l ((d + 1 : Nat) : Int) false) (fun k => ?_) (Ends.succ (fun k => by rw [spec_l4Form.j0, if_neg (by simp)]; rfl) hlo)
  rw [spec_l4Form.f]
  by_cases h : (l.length : Int) > 0
  ·rw [if_pos h, decide_eq_false (by omega)]
  ·rw [if_neg h]
end Go.Proofs.YtendbgedpjcocaaGreatDoor.B
/- Plain law: count and the specification's reckoning of statements agree. -/
namespace Go.Proofs.YtendbgedpjcocaaGreatDoor.B
open Go.RowKit Go.Proofs.YtendbgedpjcocaaGreatDoorW.PrintWords Go.Proofs.YtendbgedpjcocaaGreatDoorW.PrintLast Go.Proofs.YtendbgedpjcocaaGreatDoorW.PrintMore
set_option linter.unusedVariables false

def stepOk (d : Nat) (s : ISt) : Bool := headSt s && (formT d s.f3 && formT d s.f4)
def stepN (d : Nat) (s : ISt) : Nat := 1 + manyT d s.f3 + manyT d s.f4
def CntR (r : Bool × Int) (b : Bool) (n : Int) : Prop := r.1 = (b && decide (n ≤ 16)) ∧ (r.1 = true → r.2 = n)
theorem step_law (d : Nat) (ih : ∀ (l : List ISt) (m : Int), m ≤ 16 → CntR (countL d l m) (formT d l) (m + manyT d l)) (s : ISt) (m : Int) (hm : m ≤ 16) : CntR (cntStep d s m) (stepOk d s) (m + stepN d s) := by
 unfold cntStep stepOk stepN
 by_cases h : (decide (m + 1 > 16) || !headSt s) = true
 ·rw [if_pos h]
  rw [Bool.or_eq_true, decide_eq_true_eq] at h
  refine ⟨?_, fun h => by cases h⟩
  rcases h with h | h
  ·rw [decide_eq_false (by omega), Bool.and_false]
  ·rw [Bool.not_eq_true'] at h
   rw [h]; rfl
 ·rw [if_neg h]
  simp only [Bool.or_eq_true, decide_eq_true_eq, not_or, Bool.not_eq_true', Bool.not_eq_false] at h
  rw [h.2, Bool.true_and]
  have h1 := ih s.f3 (m + 1) (by omega)
  cases hr : (countL d s.f3 (m + 1)).1 with
  | false =>
   simp only [hr]
   refine ⟨?_, fun h => by rw [if_neg (by simp)] at h; rw [hr] at h; cases h⟩
   rw [if_neg (by simp), hr]
   have := h1.1
   rw [hr] at this
   cases hf : formT d s.f3 with
   | false => rfl
   | true =>
    rw [hf, Bool.true_and] at this
    have := of_decide_eq_false this.symm
    rw [decide_eq_false (by omega), Bool.and_false]
  | true =>
   simp only [hr, if_true]
   have h2 := h1.2 hr
   have h3 := h1.1
   rw [hr] at h3
   have h4 := Bool.and_eq_true_iff.1 h3.symm
   have h5 := of_decide_eq_true h4.2
   have h6 := ih s.f4 (countL d s.f3 (m + 1)).2 (by rw [h2]; omega)
   rw [h4.1, Bool.true_and]
   rw [h2] at h6 ⊢
   rw [show m + ((1 + manyT d s.f3 + manyT d s.f4 : Nat) : Int) = m + 1 + (manyT d s.f3 : Int) + (manyT d s.f4 : Int) by omega]
   exact h6
theorem count_law (d : Nat) : ∀ (l : List ISt) (m : Int), m ≤ 16 → CntR (countL d l m) (formT d l) (m + manyT d l) := by
 induction d with
 | zero =>
  intro l m hm
  cases l with
  | nil => exact ⟨by show true = (true && decide (m + 0 ≤ 16)); rw [decide_eq_true (by omega)]; rfl, fun _ => by show m = m + 0; omega⟩
  | cons a l => exact ⟨rfl, fun h => by cases h⟩
 | succ d ih =>
  intro l
  induction l with
  | nil => intro m hm; exact ⟨by show true = (true && decide (m + 0 ≤ 16)); rw [decide_eq_true (by omega)]; rfl, fun _ => by show m = m + 0; omega⟩
  | cons a l ihl =>
   intro m hm
   have hs := step_law d ih a m hm
   rw [countL_succ, List.foldl_cons]
   have hf : formT (d + 1) (a :: l) = (stepOk d a && formT (d + 1) l) := rfl
   have hn : ((manyT (d + 1) (a :: l) : Nat) : Int) = (stepN d a : Int) + (manyT (d + 1) l : Int) := by
    have : manyT (d + 1) (a :: l) = stepN d a + manyT (d + 1) l := by
     rw [manyT, manyT, stepN, List.map_cons, List.sum_cons, List.length_cons]; omega
    omega
   rw [hf, hn]
   simp only [if_true]
   obtain ⟨r, hr⟩ : ∃ r, r = cntStep d a m := ⟨_, rfl⟩
   rw [← hr] at hs ⊢
   obtain ⟨b, n⟩ := r
   cases b with
   | false =>
    rw [cnt_stop]
    refine ⟨?_, fun h => by cases h⟩
    have h1 : false = (stepOk d a && decide (m + stepN d a ≤ 16)) := hs.1
    cases ha : stepOk d a with
    | false => rfl
    | true =>
     rw [ha, Bool.true_and] at h1
     have := of_decide_eq_false h1.symm
     rw [decide_eq_false (by omega), Bool.and_false]
   | true =>
    have h1 : true = (stepOk d a && decide (m + stepN d a ≤ 16)) := hs.1
    have h2 : n = m + stepN d a := hs.2 rfl
    have h4 := Bool.and_eq_true_iff.1 h1.symm
    have h5 := of_decide_eq_true h4.2
    have h6 := ihl n (by omega)
    rw [countL_succ] at h6
    rw [h4.1, Bool.true_and]
    rw [h2] at h6 ⊢
    rw [← Int.add_assoc]
    exact h6
/-- StmtsOk, StmtsMany: what they say. -/
theorem stOk_is (l : List ISt) : (countL 4 l 0).1 = (formT 4 l && decide (manyT 4 l ≤ 16)) := by
 rw [(count_law 4 l 0 (by omega)).1]
 congr 1
 by_cases h : manyT 4 l ≤ 16
 ·rw [decide_eq_true (by omega), decide_eq_true h]
 ·rw [decide_eq_false (by omega), decide_eq_false h]
end Go.Proofs.YtendbgedpjcocaaGreatDoor.B
/- Plain law: the specification's own reckoning of ExprOf ends, and says so. -/
namespace Go.Proofs.YtendbgedpjcocaaGreatDoor.B
open Go.RowKit Go.Proofs.YtendbgedpjcocaaGreatDoorW.PrintWords Go.Proofs.YtendbgedpjcocaaGreatDoorW.PrintLast Go.Proofs.YtendbgedpjcocaaGreatDoorW.PrintMore
set_option linter.unusedVariables false

theorem cut_eq (n : Int) : spec_NumCut.f n = impl_NumCut.f n := by
 rw [numCut_is, impl_NumCut.f]
 congr 1
 unfold mn mx
 by_cases h1 : n < -1000000
 ·simp [h1]
 ·by_cases h2 : (1000000 : Int) < n
  ·simp [h1, h2]
  ·simp [h1, h2]
theorem two_eq (k a b : Int) : spec_l3Two.f k a b = some (twoI k a b) := by
 rw [← two_some]
 unfold spec_l3Two.f impl_two.f spec_NumAdd.f spec_NumSub.f spec_NumMul.f impl_NumAdd.f impl_NumSub.f impl_NumMul.f impl_maker_of.f spec_NumIs.f spec_NumOn.f impl_NumIs.f impl_NumOn.f
 simp [cut_eq]
theorem get_eq (l0 l1 l2 : List Int) (h0 : l0.length = 6) (h1 : l1.length = 6) (h2 : l2.length = 6) (k a : Int) (h : addrOkL k a = true) : spec_l2Get.f l0 l1 l2 k a = some (getL (l0 ++ l1 ++ l2) k a) := by
 obtain ⟨hk, ha⟩ := addr_cases h
 rw [getL, if_pos h]
 obtain ⟨x0, x1, x2, x3, x4, x5, rfl⟩ := six l0 h0
 obtain ⟨y0, y1, y2, y3, y4, y5, rfl⟩ := six l1 h1
 obtain ⟨z0, z1, z2, z3, z4, z5, rfl⟩ := six l2 h2
 rcases hk with rfl | rfl | rfl <;> rcases ha with rfl | rfl | rfl | rfl | rfl | rfl <;> rfl
theorem mono_o (a b c d : Int) (l : List Ex) (l0 l1 l2 : List Int) : ∀ k, LeO (spec_l3Of.f k a b c d l l0 l1 l2) (spec_l3Of.f (k + 1) a b c d l l0 l1 l2) := fun k => spec_l3Of.mono_l k a b c d l l0 l1 l2
theorem of_spec (l0 l1 l2 : List Int) (h0 : l0.length = 6) (h1 : l1.length = 6) (h2 : l2.length = 6) (d : Nat) : ∀ e : Ex, formS d e = true → ∃ k, spec_l3Of.f k e.f0 e.f1 e.f2.f0 e.f2.f1 e.f3 l0 l1 l2 = some (evalI (l0 ++ l1 ++ l2) e) := by
 induction d with
 | zero => intro e h; cases h
 | succ d ih =>
  intro e h
  rw [formS, Bool.and_eq_true] at h
  have hkids : ∀ x ∈ e.f3, _ := fun x hx => ih x (List.all_eq_true.1 h.2 x hx)
  have hh := h.1
  unfold headOk at hh
  simp only [Bool.and_eq_true, beq_iff_eq] at hh
  obtain ⟨⟨hk, hl⟩, hs⟩ := hh
  have hk' : 1 ≤ e.f0 ∧ e.f0 ≤ 10 := of_decide_eq_true hk
  by_cases c1 : e.f0 = 1
  ·exact ⟨1, by rw [spec_l3Of.f, if_pos c1, evalI_eq, if_pos c1]⟩
  ·by_cases c2 : e.f0 = 2
   ·have ha : addrOkL e.f2.f0 e.f2.f1 = true := by
     rw [shapeL, if_neg c1, if_pos c2, Bool.and_eq_true] at hs; exact hs.1
    exact ⟨1, by rw [spec_l3Of.f, if_neg c1, if_pos c2, get_eq l0 l1 l2 h0 h1 h2 _ _ ha, evalI_eq, if_neg c1, if_pos c2]; rfl⟩
   ·by_cases c10 : e.f0 = 10
    ·have hl' : e.f3.length = 1 := by
      rw [kidsN, if_neg (by omega), if_neg (by omega)] at hl; omega
     obtain ⟨k, hk0⟩ := hkids e.f3[0] (List.getElem_mem (by omega))
     refine ⟨k + 1, ?_⟩
     have hr : rd_T27 e.f3 0 = e.f3[0] := rd_get e.f3 0 (by omega)
     have hv : (e.f3.map (evalI (l0 ++ l1 ++ l2))).getD 0 0 = evalI (l0 ++ l1 ++ l2) e.f3[0] := by
      rw [List.getD_eq_getElem?_getD, List.getElem?_map, List.getElem?_eq_getElem (by omega)]; rfl
     rw [spec_l3Of.f, if_neg c1, if_neg c2, if_pos c10, if_pos (by omega), hr, hk0, evalI_eq _ e, if_neg c1, if_neg c2, if_pos c10, hv]
     by_cases hz : evalI (l0 ++ l1 ++ l2) e.f3[0] = 0
     ·rw [hz]; rfl
     ·rw [if_neg hz]
      simp only [Option.bind_some, spec_NumOn.f, spec_NumIs.f, show (evalI (l0 ++ l1 ++ l2) e.f3[0] != 0) = true from bne_iff_ne.mpr hz, Bool.not_true, Bool.false_eq_true, if_false]
    ·have h39 : 3 ≤ e.f0 ∧ e.f0 ≤ 9 := by omega
     have hl' : e.f3.length = 2 := by
      rw [kidsN, if_neg (by omega), if_pos h39] at hl; omega
     obtain ⟨k0, hk0⟩ := hkids e.f3[0] (List.getElem_mem (by omega))
     obtain ⟨k1, hk1⟩ := hkids e.f3[1] (List.getElem_mem (by omega))
     refine ⟨k0 + k1 + 1, ?_⟩
     have hr0 : rd_T27 e.f3 0 = e.f3[0] := rd_get e.f3 0 (by omega)
     have hr1 : rd_T27 e.f3 1 = e.f3[1] := rd_get e.f3 1 (by omega)
     have hv0 : (e.f3.map (evalI (l0 ++ l1 ++ l2))).getD 0 0 = evalI (l0 ++ l1 ++ l2) e.f3[0] := by
      rw [List.getD_eq_getElem?_getD, List.getElem?_map, List.getElem?_eq_getElem (by omega)]; rfl
     have hv1 : (e.f3.map (evalI (l0 ++ l1 ++ l2))).getD 1 0 = evalI (l0 ++ l1 ++ l2) e.f3[1] := by
      rw [List.getD_eq_getElem?_getD, List.getElem?_map, List.getElem?_eq_getElem (by omega)]; rfl
     rw [spec_l3Of.f, if_neg c1, if_neg c2, if_neg c10, if_pos (by omega), hr0, hr1, up_le (mono_o _ _ _ _ _ _ _ _) (Nat.le_add_right k0 k1) hk0, Option.bind_some, if_pos (by omega), up_le (mono_o _ _ _ _ _ _ _ _) (Nat.le_add_left k1 k0) hk1, Option.bind_some, two_eq, evalI_eq _ e, if_neg c1, if_neg c2, if_neg c10, hv0, hv1]
     rfl
theorem mono_l2 (l : List Int) (j : Int) : ∀ k, LeO (spec_l2List.l0 k l j) (spec_l2List.l0 (k + 1) l j) := fun k => spec_l2List.mono_l k l j
theorem list_loop (l : List Int) (hl : l.length < 9223372036854775807) : ∀ (n j : Nat), n + j = l.length → ∃ k, spec_l2List.l0 k l j = some (l.length == 6 && !(l.drop j).any fun n => !isNumL n) := by
 intro n
 induction n with
 | zero =>
  intro j hj
  refine ⟨1, ?_⟩
  rw [spec_l2List.l0, if_neg (by omega), List.drop_eq_nil_of_le (by omega)]
  by_cases h6 : l.length = 6
  ·simp [h6]
  ·have q1 : ((l.length : Int) == 6) = false := beq_false_of_ne (by omega)
   have q2 : (l.length == 6) = false := beq_false_of_ne h6
   rw [q1, q2]; rfl
 | succ n ihn =>
  intro j hj
  have hlt : j < l.length := by omega
  obtain ⟨k2, h2⟩ := ihn (j + 1) (by omega)
  refine ⟨k2 + 1, ?_⟩
  have hr : rd l (j : Int) = l[j] := by simp [rd, hlt]
  rw [spec_l2List.l0, if_pos (by omega), if_pos (by omega), hr, numCut_is, Option.bind_some, wrap_small (by omega) (by omega), List.drop_eq_getElem_cons hlt, List.any_cons]
  by_cases c1 : l[j] < -1000000
  ·have q1 : ¬ (-1000000 : Int) = l[j] := by omega
   have q2 : isNumL l[j] = false := by unfold isNumL; exact decide_eq_false (by omega)
   simp [c1, q1, q2]
  ·by_cases c2 : 1000000 < l[j]
   ·have q1 : ¬ (1000000 : Int) = l[j] := by omega
    have q2 : isNumL l[j] = false := by unfold isNumL; exact decide_eq_false (by omega)
    simp [c1, c2, q1, q2]
   ·have q2 : isNumL l[j] = true := by unfold isNumL; exact decide_eq_true (by omega)
    simp only [c1, c2, if_false, if_true, q2, Bool.not_true, Bool.false_or]
    exact h2
theorem list_spec (l : List Int) (hl : l.length < 9223372036854775807) : ∃ k, spec_l2List.f k l = some (listOk l) := by
 obtain ⟨k, h⟩ := list_loop l hl l.length 0 (by omega)
 exact ⟨k, h⟩
theorem mono_l2f (l : List Int) : ∀ k, LeO (spec_l2List.f k l) (spec_l2List.f (k + 1) l) := fun k => mono_l2 l 0 k
theorem memOk_spec (l0 l1 l2 : List Int) (h0 : l0.length < 9223372036854775807) (h1 : l1.length < 9223372036854775807) (h2 : l2.length < 9223372036854775807) : ∃ k, spec_MemOk.f k l0 l1 l2 = some (memOkL l0 l1 l2) := by
 obtain ⟨k0, e0⟩ := list_spec l0 h0
 obtain ⟨k1, e1⟩ := list_spec l1 h1
 obtain ⟨k2, e2⟩ := list_spec l2 h2
 refine ⟨k0 + k1 + k2, ?_⟩
 unfold spec_MemOk.f memOkL
 rw [up_le (mono_l2f l0) (by omega) e0, up_le (mono_l2f l1) (by omega) e1, up_le (mono_l2f l2) (by omega) e2]
 cases listOk l0 <;> cases listOk l1 <;> simp
end Go.Proofs.YtendbgedpjcocaaGreatDoor.B
/- What is reckoned of two and of one: plain facts. -/
namespace Go.Proofs.YtendbgedpjcocaaGreatDoor.B
open Go.RowKit Go.Proofs.YtendbgedpjcocaaGreatDoorW.PrintWords Go.Proofs.YtendbgedpjcocaaGreatDoorW.PrintLast Go.Proofs.YtendbgedpjcocaaGreatDoorW.PrintMore
set_option linter.unusedVariables false

def okE (e : Ex) : Bool := formS 6 e && decide (manyS 6 e ≤ 14)
theorem ofV_eq (e : Ex) (l0 l1 l2 : List Int) : ofV e l0 l1 l2 = if memOkL l0 l1 l2 && okE e then evalI (l0 ++ l1 ++ l2) e else 0 := by rw [ofV, okL_eq]; rfl
def cutL (n : Int) : Int := if n < -1000000 then -1000000 else if 1000000 < n then 1000000 else n
theorem cutI (n : Int) : impl_NumCut.f n = some (cutL n) := by rw [← cut_eq, numCut_is]; rfl
theorem cutL_in (n : Int) : -1000000 ≤ cutL n ∧ cutL n ≤ 1000000 := by
 unfold cutL
 split
 ·omega
 ·split <;> omega
theorem listOk_in {l : List Int} (h : listOk l = true) : ∀ x ∈ l, -1000000 ≤ x ∧ x ≤ 1000000 := by
 unfold listOk at h
 rw [Bool.and_eq_true, Bool.not_eq_true', List.any_eq_false] at h
 intro x hx
 have := h.2 x hx
 simp only [Bool.not_eq_true, Bool.not_eq_false'] at this
 exact of_decide_eq_true this
theorem memOk_in {l0 l1 l2 : List Int} (h : memOkL l0 l1 l2 = true) : ∀ x ∈ l0 ++ l1 ++ l2, -1000000 ≤ x ∧ x ≤ 1000000 := by
 unfold memOkL at h
 rw [Bool.and_eq_true, Bool.and_eq_true] at h
 intro x hx
 rw [List.mem_append, List.mem_append] at hx
 rcases hx with (hx | hx) | hx
 ·exact listOk_in h.1 x hx
 ·exact listOk_in h.2.1 x hx
 ·exact listOk_in h.2.2 x hx
end Go.Proofs.YtendbgedpjcocaaGreatDoor.B
/- The draws of numbers, places and expressions end. -/
namespace Go.Proofs.YtendbgedpjcocaaGreatDoor.B
open Go.RowKit Go.Proofs.YtendbgedpjcocaaGreatDoorW.PrintWords Go.Proofs.YtendbgedpjcocaaGreatDoorW.PrintLast Go.Proofs.YtendbgedpjcocaaGreatDoorW.PrintMore
set_option linter.unusedVariables false

/-- A tree whose lists are short indeed. -/
inductive Tiny : Ex → Prop
 | mk (e : Ex) : e.f3.length ≤ 1000 → (∀ x ∈ e.f3, Tiny x) → Tiny e
theorem Tiny.short {e : Ex} (h : Tiny e) : Short e := by
 induction h with
 | mk e hl _ ih => exact .mk e (by omega) ih
theorem rd_mem (l : List Int) (i : Int) (h0 : 0 ≤ i) (h1 : i < l.length) : rd l i ∈ l := by
 have : i.toNat < l.length := by omega
 have e : rd l i = l[i.toNat] := by simp [rd, this]
 rw [e]; exact List.getElem_mem this
theorem num_total (s : List Int) (hs : Bytes s) (hl : s.length ≤ 2000) (p : Int) (hp : 0 ≤ p) (hp1 : p < 1099511627776) (l : List Int) (h1 : 1 ≤ l.length) (h2 : l.length < 1000) :
  ∃ x, x ∈ l ∧ ∀ k, spec_l12Rd_num.f (k + 1) s p l = some (x, p + 1) := by
 obtain ⟨r, r0, r1, hr⟩ := pick_total s hs hl p l.length hp hp1 (by omega) (by omega)
 refine ⟨rd l r, rd_mem l r r0 r1, fun k => ?_⟩
 rw [spec_l12Rd_num.f, hr k]
 simp only [Option.bind_some, if_pos r0, if_pos r1]
theorem addr_total (s : List Int) (hs : Bytes s) (hl : s.length ≤ 2000) (p : Int) (hp : 0 ≤ p) (hp1 : p < 1099511627770) :
  ∃ a b : Int, (1 ≤ a ∧ a ≤ 3) ∧ (0 ≤ b ∧ b < 3) ∧ ∀ k, spec_l2Addr.f (k + 1) s p = some (a, b, p + 2) := by
 obtain ⟨r, r0, r1, hr⟩ := pick_total s hs hl p 3 hp (by omega) (by omega) (by omega)
 obtain ⟨q, q0, q1, hq⟩ := pick_total s hs hl (p + 1) 3 (by omega) (by omega) (by omega) (by omega)
 refine ⟨1 + r, q, by omega, by omega, fun k => ?_⟩
 rw [spec_l2Addr.f, hr k]
 simp only [Option.bind_some]
 rw [hq k]
 simp only [Option.bind_some]
 rw [wrap_id (by omega) (by omega), show p + 1 + 1 = p + 2 by omega]
/-- What a draw of an expression leaves. -/
def Drew1 (o : Option (Int × Int × Int × Int × List Ex × Int)) (e : Ex) (p : Int) : Prop := o = some (e.f0, e.f1, e.f2.f0, e.f2.f1, e.f3, p)
theorem leaf_total (s : List Int) (hs : Bytes s) (hl : s.length ≤ 2000) (p : Int) (hp : 0 ≤ p) (hp1 : p < 1099511627000) (a1 : Int) :
  ∃ (e : Ex) (p' : Int), Tiny e ∧ p ≤ p' ∧ p' ≤ p + 3 ∧ ∀ k, Drew1 (spec_l3Expr.j0 (k + 2) a1 true s p) e p' := by
 obtain ⟨r, r0, r1, hr⟩ := pick_total s hs hl p 3 hp (by omega) (by omega) (by omega)
 by_cases hz : r = 0
 ·obtain ⟨x, hx, hn⟩ := num_total s hs hl (p + 1) (by omega) (by omega) [0, 1, 2, 3, (-1), 5, 1000000] (by simp) (by simp)
  refine ⟨⟨1, x, ⟨0, 0⟩, []⟩, p + 1 + 1, .mk _ (by simp) (by simp), by omega, by omega, fun k => ?_⟩
  unfold Drew1
  rw [spec_l3Expr.j0, if_pos rfl, hr k]
  simp only [Option.bind_some, if_pos hz]
  rw [hn k]; rfl
 ·obtain ⟨a, b, ha, hb, hq⟩ := addr_total s hs hl (p + 1) (by omega) (by omega)
  refine ⟨⟨2, 0, ⟨a, b⟩, []⟩, p + 1 + 2, .mk _ (by simp) (by simp), by omega, by omega, fun k => ?_⟩
  unfold Drew1
  rw [spec_l3Expr.j0, if_pos rfl, hr k]
  simp only [Option.bind_some, if_neg hz]
  rw [hq k]; rfl
theorem mono_ef (s : List Int) (p a : Int) : ∀ k, LeO (spec_l3Expr.f k s p a) (spec_l3Expr.f (k + 1) s p a) := fun k => (spec_l3Expr.mono_l k).1 s p a
theorem mono_el (x n : Int) (s : List Int) (p a b c d : Int) (l : List Ex) : ∀ k, LeO (spec_l3Expr.l0 k x n s p a b c d l) (spec_l3Expr.l0 (k + 1) x n s p a b c d l) := fun k => (spec_l3Expr.mono_l k).2.2 x n s p a b c d l
def bnd : Nat → Int
 | 0 => 10
 | d + 1 => 10 + 2 * bnd d
theorem kids_total (s : List Int) (d : Nat) (kd : Int) (B : Int) (hB : 0 ≤ B) (ih : ∀ p : Int, 0 ≤ p → p + B < 1099510000000 → ∃ (e : Ex) (p' : Int) (k : Nat), Tiny e ∧ p ≤ p' ∧ p' ≤ p + B ∧ Drew1 (spec_l3Expr.f k s p d) e p') (hd : d < 1000) :
  ∀ (n : Nat) (p : Int) (acc : List Ex), 0 ≤ p → p + n * B < 1099510000000 → acc.length + n ≤ 2 → (∀ x ∈ acc, Tiny x) →
   ∃ (l : List Ex) (p' : Int) (k : Nat), l.length = acc.length + n ∧ (∀ x ∈ l, Tiny x) ∧ p ≤ p' ∧ p' ≤ p + n * B ∧ spec_l3Expr.l0 k ((d : Int) + 1) n s p kd 0 0 0 acc = some (kd, 0, 0, 0, l, p') := by
 intro n
 induction n with
 | zero =>
  intro p acc hp hpb ha hacc
  exact ⟨acc, p, 1, by omega, hacc, by omega, by omega, by rw [spec_l3Expr.l0, if_neg (by omega)]⟩
 | succ n ihn =>
  intro p acc hp hpb ha hacc
  have e1 : ((n + 1 : Nat) : Int) * B = n * B + B := by rw [Int.natCast_add, Int.add_mul]; simp
  have nb : 0 ≤ (n : Int) * B := Int.mul_nonneg (by omega) hB
  rw [e1] at hpb
  obtain ⟨e, p1, k1, he, q1, q2, hk1⟩ := ih p hp (by omega)
  obtain ⟨l, p2, k2, hl1, hl2, q3, q4, hk2⟩ := ihn p1 (acc ++ [e]) (by omega) (by omega) (by simp; omega) (by intro x hx; rcases List.mem_append.1 hx with hx | hx; exact hacc x hx; simp at hx; rw [hx]; exact he)
  refine ⟨l, p2, k1 + k2 + 1, by rw [hl1]; simp; omega, hl2, by omega, by rw [e1]; omega, ?_⟩
  unfold Drew1 at hk1
  rw [spec_l3Expr.l0, if_pos (by omega), show (d : Int) + 1 - 1 = d by omega, wrap_id (n := (d : Int)) (by omega) (by omega), up_le (mono_ef _ _ _) (Nat.le_add_right k1 k2) hk1]
  simp only [Option.bind_some]
  rw [if_pos (by omega), show (((n + 1 : Nat) : Int) - 1) = (n : Int) by omega, wrap_id (n := (n : Int)) (by omega) (by omega)]
  have eta : (⟨e.f0, e.f1, ⟨e.f2.f0, e.f2.f1⟩, e.f3⟩ : Ex) = e := by cases e with | mk a b c l => cases c; rfl
  rw [eta]
  exact up_le (mono_el _ _ _ _ _ _ _ _ _) (Nat.le_add_left k2 k1) hk2
theorem bnd_pos (d : Nat) : 10 ≤ bnd d := by
 induction d with
 | zero => simp [bnd]
 | succ d ih => simp [bnd]; omega
theorem bnd_le (d : Nat) : d ≤ 10 → bnd d ≤ 100000 := by
 intro h
 have : d = 0 ∨ d = 1 ∨ d = 2 ∨ d = 3 ∨ d = 4 ∨ d = 5 ∨ d = 6 ∨ d = 7 ∨ d = 8 ∨ d = 9 ∨ d = 10 := by omega
 rcases this with rfl | rfl | rfl | rfl | rfl | rfl | rfl | rfl | rfl | rfl | rfl <;> decide
theorem expr_total (s : List Int) (hs : Bytes s) (hl : s.length ≤ 2000) (d : Nat) : d ≤ 10 → ∀ p : Int, 0 ≤ p → p + bnd d < 1099510000000 → ∃ (e : Ex) (p' : Int) (k : Nat), Tiny e ∧ p ≤ p' ∧ p' ≤ p + bnd d ∧ Drew1 (spec_l3Expr.f k s p d) e p' := by
 induction d with
 | zero =>
  intro _ p hp hp1
  have h10 := bnd_pos 0
  obtain ⟨e, p', he, q1, q2, h⟩ := leaf_total s hs hl p hp (by omega) 0
  refine ⟨e, p', 3, he, q1, by simp only [bnd]; omega, ?_⟩
  have := h 0
  unfold Drew1 at this ⊢
  rw [spec_l3Expr.f, if_pos (by omega)]
  exact this
 | succ d ih =>
  intro hd p hp hp1
  have hb := bnd_pos d
  have hb2 := bnd_le d (by omega)
  have hbd : bnd (d + 1) = 10 + 2 * bnd d := rfl
  by_cases h0 : d = 0
  ·subst h0
   obtain ⟨e, p', he, q1, q2, h⟩ := leaf_total s hs hl p hp (by omega) 1
   refine ⟨e, p', 3, he, q1, by omega, ?_⟩
   have := h 0
   unfold Drew1 at this ⊢
   rw [spec_l3Expr.f, if_pos (by omega)]
   exact this
  ·obtain ⟨r, r0, r1, hr⟩ := pick_total s hs hl p 4 hp (by omega) (by omega) (by omega)
   by_cases hz : r = 0
   ·obtain ⟨e, p', he, q1, q2, h⟩ := leaf_total s hs hl (p + 1) (by omega) (by omega) ((d + 1 : Nat) : Int)
    refine ⟨e, p', 3, he, by omega, by omega, ?_⟩
    have := h 0
    unfold Drew1 at this ⊢
    rw [spec_l3Expr.f, if_neg (by omega), hr 1]
    simp only [Option.bind_some, hz]
    exact this
   ·obtain ⟨x, hx, hn⟩ := num_total s hs hl (p + 1) (by omega) (by omega) [3, 3, 4, 5, 6, 6, 7, 8, 9, 10] (by simp) (by simp)
    have hx' : 3 ≤ x ∧ x ≤ 10 := by
     simp only [List.mem_cons, List.mem_nil_iff, or_false] at hx
     omega
    have hk2 : kidsN x = 1 ∨ kidsN x = 2 := by
     unfold kidsN
     rw [if_neg (by omega)]
     split
     ·exact .inr rfl
     ·exact .inl rfl
    obtain ⟨n, hn2, hnk⟩ : ∃ n : Nat, n ≤ 2 ∧ kidsN x = (n : Int) := by
     rcases hk2 with h | h
     ·exact ⟨1, by omega, by rw [h]; rfl⟩
     ·exact ⟨2, by omega, by rw [h]; rfl⟩
    have hmul : (n : Int) * bnd d ≤ 2 * bnd d := Int.mul_le_mul_of_nonneg_right (by omega) (by omega)
    obtain ⟨l, p', k, hl1, hl2, q1, q2, h⟩ := kids_total s d x (bnd d) (by omega) (fun q hq0 hq1 => ih (by omega) q hq0 hq1) (by omega) n (p + 2) [] (by omega) (by omega) (by simpa using hn2) (by simp)
    simp only [List.length_nil, Nat.zero_add] at hl1
    refine ⟨⟨x, 0, ⟨0, 0⟩, l⟩, p', k + 4, .mk _ (by show l.length ≤ _; omega) hl2, by omega, by omega, ?_⟩
    unfold Drew1
    have hz' : (r == 0) = false := beq_false_of_ne hz
    have hko : kindOk x = true := by unfold kindOk; exact decide_eq_true (by omega)
    rw [spec_l3Expr.f, if_neg (by omega), hr (k + 2)]
    simp only [Option.bind_some, hz']
    rw [spec_l3Expr.j0, if_neg (by decide), hn (k + 1)]
    simp only [Option.bind_some]
    rw [l3Kids_is (k + 1), hko, if_pos rfl, hnk]
    simp only [Option.bind_some]
    rw [show p + 1 + 1 = p + 2 by omega, show ((d + 1 : Nat) : Int) = (d : Int) + 1 by omega]
    exact up_le (mono_el _ _ _ _ _ _ _ _ _) (by omega) h
end Go.Proofs.YtendbgedpjcocaaGreatDoor.B
/- The draws of what is ok, and the copies, end. -/
namespace Go.Proofs.YtendbgedpjcocaaGreatDoor.B
open Go.RowKit Go.Proofs.YtendbgedpjcocaaGreatDoorW.PrintWords Go.Proofs.YtendbgedpjcocaaGreatDoorW.PrintLast Go.Proofs.YtendbgedpjcocaaGreatDoorW.PrintMore
set_option linter.unusedVariables false

theorem some_total (s : List Int) (hs : Bytes s) (hl : s.length ≤ 2000) (p : Int) (hp : 0 ≤ p) (hp1 : p < 1099500000000) :
  ∃ (e : Ex) (p' : Int) (k : Nat), Tiny e ∧ p ≤ p' ∧ p' ≤ p + 200002 ∧ Drew1 (spec_l3Some.f k s p) e p' := by
 obtain ⟨r, r0, r1, hr⟩ := pick_total s hs hl p 4 hp (by omega) (by omega) (by omega)
 obtain ⟨d, hd⟩ := Int.eq_ofNat_of_zero_le r0
 have hd4 : d < 4 := by omega
 have b1 := bnd_le (d + 1) (by omega)
 have b2 := bnd_le 2 (by omega)
 have b3 := bnd_pos (d + 1)
 have b4 := bnd_pos 2
 obtain ⟨e, p1, k1, he, q1, q2, h1⟩ := expr_total s hs hl (d + 1) (by omega) (p + 1) (by omega) (by omega)
 obtain ⟨k2, h2⟩ := exprOk_spec e he.short
 obtain ⟨e', p2, k3, he', q3, q4, h3⟩ := expr_total s hs hl 2 (by omega) p1 (by omega) (by omega)
 unfold Drew1 at h1 h3
 have m1 : spec_l3Expr.f (k1 + k2 + k3 + 1) s (p + 1) ((d + 1 : Nat) : Int) = _ := up_le (mono_ef _ _ _) (by omega) h1
 have m2 : spec_ExprOk.f (k1 + k2 + k3 + 1) e.f0 e.f1 e.f2.f0 e.f2.f1 e.f3 = _ := up_le (f := fun k => spec_ExprOk.f k e.f0 e.f1 e.f2.f0 e.f2.f1 e.f3) (fun k => spec_ExprOk.mono _ _ _ _ _ k) (show k2 ≤ k1 + k2 + k3 + 1 by omega) h2
 have m3 : spec_l3Expr.f (k1 + k2 + k3 + 1) s p1 2 = _ := up_le (mono_ef _ _ _) (by omega) h3
 have e1 : wrap64 (1 + r) = ((d + 1 : Nat) : Int) := by rw [wrap_id (by omega) (by omega)]; omega
 cases hv : (formS 6 e && decide (manyS 6 e ≤ 14)) with
 | true =>
  refine ⟨e, p1, k1 + k2 + k3 + 1, he, by omega, by omega, ?_⟩
  unfold Drew1
  rw [spec_l3Some.f, hr (k1 + k2 + k3)]
  simp only [Option.bind_some]
  rw [e1, m1]
  simp only [Option.bind_some]
  rw [m2, hv]
  simp
 | false =>
  refine ⟨e', p2, k1 + k2 + k3 + 1, he', by omega, by omega, ?_⟩
  unfold Drew1
  rw [spec_l3Some.f, hr (k1 + k2 + k3)]
  simp only [Option.bind_some]
  rw [e1, m1]
  simp only [Option.bind_some]
  rw [m2, hv]
  simp only [Option.bind_some, Bool.false_eq_true, if_false]
  rw [m3]
  simp

theorem addrBent_total (s : List Int) (hs : Bytes s) (hl : s.length ≤ 2000) (p : Int) (hp : 0 ≤ p) (hp1 : p < 1099500000000) :
  ∃ (a b p' : Int), p ≤ p' ∧ p' ≤ p + 4 ∧ ∀ k, spec_l2AddrBent.f (k + 1) s p = some (a, b, p') := by
 obtain ⟨a, b, ha, hb, hq⟩ := addr_total s hs hl p hp (by omega)
 obtain ⟨r, r0, r1, hr⟩ := pick_total s hs hl (p + 2) 16 (by omega) (by omega) (by omega) (by omega)
 obtain ⟨x, hx, hn⟩ := num_total s hs hl (p + 2 + 1) (by omega) (by omega) [0, 4, (-1)] (by simp) (by simp)
 obtain ⟨y, hy, hm⟩ := num_total s hs hl (p + 2 + 1) (by omega) (by omega) [(-1), 6, 5] (by simp) (by simp)
 by_cases h0 : r = 0
 ·refine ⟨x, b, p + 2 + 1 + 1, by omega, by omega, fun k => ?_⟩
  rw [spec_l2AddrBent.f, hq k]
  simp only [Option.bind_some]
  rw [hr k]
  simp only [Option.bind_some, if_pos h0]
  rw [hn k]; rfl
 ·by_cases h1 : r = 1
  ·refine ⟨a, y, p + 2 + 1 + 1, by omega, by omega, fun k => ?_⟩
   rw [spec_l2AddrBent.f, hq k]
   simp only [Option.bind_some]
   rw [hr k]
   simp only [Option.bind_some, if_neg h0, if_pos h1]
   rw [hm k]; rfl
  ·refine ⟨a, b, p + 2 + 1, by omega, by omega, fun k => ?_⟩
   rw [spec_l2AddrBent.f, hq k]
   simp only [Option.bind_some]
   rw [hr k]
   simp only [Option.bind_some, if_neg h0, if_neg h1]
theorem mono_cf (a b c d : Int) (l : List Ex) : ∀ k, LeO (spec_l3Copy.f k a b c d l) (spec_l3Copy.f (k + 1) a b c d l) := fun k => (spec_l3Copy.mono_l k).1 a b c d l
theorem mono_cl (x a b c d : Int) (l : List Ex) (a' b' c' d' : Int) (l' : List Ex) : ∀ k, LeO (spec_l3Copy.l0 k x a b c d l a' b' c' d' l') (spec_l3Copy.l0 (k + 1) x a b c d l a' b' c' d' l') := fun k => (spec_l3Copy.mono_l k).2 x a b c d l a' b' c' d' l'
theorem copy_total (e : Ex) (he : Tiny e) : ∃ k, spec_l3Copy.f k e.f0 e.f1 e.f2.f0 e.f2.f1 e.f3 = some (e.f0, e.f1, e.f2.f0, e.f2.f1, e.f3) := by
 induction he with
 | mk e hl hk ih =>
  have loop : ∀ (n j : Nat), n + j = e.f3.length → ∃ k, spec_l3Copy.l0 k j e.f0 e.f1 e.f2.f0 e.f2.f1 e.f3 e.f0 e.f1 e.f2.f0 e.f2.f1 (e.f3.take j) = some (e.f0, e.f1, e.f2.f0, e.f2.f1, e.f3) := by
   intro n
   induction n with
   | zero => intro j hj; exact ⟨1, by rw [spec_l3Copy.l0, if_neg (by omega), List.take_of_length_le (by omega)]⟩
   | succ n ihn =>
    intro j hj
    have hlt : j < e.f3.length := by omega
    obtain ⟨k1, h1⟩ := ih e.f3[j] (List.getElem_mem hlt)
    obtain ⟨k2, h2⟩ := ihn (j + 1) (by omega)
    refine ⟨k1 + k2 + 1, ?_⟩
    have eta : (⟨e.f3[j].f0, e.f3[j].f1, ⟨e.f3[j].f2.f0, e.f3[j].f2.f1⟩, e.f3[j].f3⟩ : Ex) = e.f3[j] := by cases e.f3[j] with | mk a b c l => cases c; rfl
    rw [spec_l3Copy.l0, if_pos (by omega), if_pos (by omega), rd_get e.f3 j hlt, up_le (mono_cf _ _ _ _ _) (Nat.le_add_right k1 k2) h1]
    simp only [Option.bind_some]
    rw [if_pos (by simp; omega), wrap_id (by omega) (by omega), eta, ← List.take_succ_eq_append_getElem hlt]
    exact up_le (mono_cl _ _ _ _ _ _ _ _ _ _ _) (Nat.le_add_left k2 k1) h2
  obtain ⟨k, h⟩ := loop e.f3.length 0 (by omega)
  exact ⟨k + 1, by rw [spec_l3Copy.f]; simpa using h⟩
end Go.Proofs.YtendbgedpjcocaaGreatDoor.B
/- impl.StmtsOk and impl.StmtsMany, over count. -/
namespace Go.Proofs.YtendbgedpjcocaaGreatDoor.B
open Go.RowKit Go.Shelf Go.Proofs.YtendbgedpjcocaaGreatDoorW.PrintWords Go.Proofs.YtendbgedpjcocaaGreatDoorW.PrintLast Go.Proofs.YtendbgedpjcocaaGreatDoorW.PrintMore
set_option linter.unusedVariables false
theorem count_all (hok : OkCon) : ∀ d, d ≤ 4 → CntCon d := by
 intro d
 induction d with
 | zero => exact fun hd => count_step hok 0 hd (fun d' h => absurd h (by omega))
 | succ d ih => exact fun hd => count_step hok (d + 1) hd (fun d' h => by have := ih (by omega); cases (show d = d' by omega); exact this)
set_option maxRecDepth 100000 in
set_option maxHeartbeats 4000000 in
theorem stmtsOk_of (hok : OkCon) (A0 : Option Addr) (c0 : Nat) (l0 : List S35) (w : World) (hr0 : Kd.C k35 w A0 l0.length l0) (hc0 : l0.length ≤ c0) :
  Calls Tryz.prog 36 #[.slice A0 l0.length c0] w fun e w' => e = .returned (.bool (countL 4 l0 0).1) ∧ Below w.heap.size w w' := by
 have HCALL := Aside0.mk (count_all hok 4 (by omega) l0 A0 c0 w.heap.size 0 0 w (w.alloc (.cells #[.int .i64 0] 3)) (by rfl) (by omega) (by omega) (Nat.le_refl _) (Boxed.new w _ _) ((Below.refl _ _).alloc (Nat.le_refl _) _) hr0 hc0)
 clear hr0 hc0
 go_enter Tryz.func36, Tryz.ntmps36
 go_wp2_with fail
 refine HCALL.out.mono ?_
 rintro e w1 ⟨rfl, _, hB, _⟩
 have HB := Aside0.mk hB
 clear hB HCALL
 go_wp2
 go_ret
 exact ⟨rfl, HB.out⟩
end Go.Proofs.YtendbgedpjcocaaGreatDoor.B
