/- Plain law: the specification's own reckoning of StmtsOk and StmtsMany ends, and says what count says. -/
import Derived.Test.YtddnijmgipffeaaEndsSt
import Derived.Test.YtddnijmgipffeaaOkSpec
import Derived.Test.YtddnijmgipffeaaCount
import Derived.Test.YtddnijmgipffeaaPkC
namespace Go.Proofs.Ytddnijmgipffeaa.B
open Go.RowKit Go.Proofs.YtddnijmgipffeaaW.PrintWords Go.Proofs.YtddnijmgipffeaaW.PrintLast Go.Proofs.YtddnijmgipffeaaW.PrintMore
set_option linter.unusedVariables false

theorem Ends.of_up {α : Type} {f : Nat → Option α} {r : α} (hm : ∀ k, LeO (f k) (f (k + 1))) (h : ∃ k, f k = some r) : Ends f r := by
 obtain ⟨k, hk⟩ := h
 exact ⟨k, fun k' hk' => up_le hm hk' hk⟩
theorem and_part {f g : Nat → Option Bool} {a b : Bool} (hf : Ends f a) (hg : a = true → Ends g b) : Ends (fun k => (f k).bind fun t => if t = true then g k else some false) (a && b) := by
 refine hf.bind (g := fun k t => if t = true then g k else some false) ?_
 cases a with
 | false => exact Ends.const fun k => rfl
 | true => exact (hg rfl).of fun k => by rw [if_pos rfl]
/-- How many statements there are, up to so deep. -/
def manyT : Nat → List ISt → Nat
 | 0, l => l.length
 | d + 1, l => l.length + (l.map fun s => manyT d s.f3 + manyT d s.f4).sum
def formT : Nat → List ISt → Bool
 | 0, l => l.isEmpty
 | d + 1, l => l.all fun s => headSt s && (formT d s.f3 && formT d s.f4)
theorem many0_stop (k : Nat) (l : List ISt) (hl : l.length ≤ 9223372036854775807) : spec_l4Many.f (k + 3) l 0 = some (l.length : Int) := by
 rw [spec_l4Many.f, spec_l4Many.l0]
 by_cases h : (0 : Int) < (l.length : Int)
 ·rw [if_pos h, decide_eq_false (by omega), spec_l4Many.j1, if_neg (by simp)]
 ·rw [if_neg h, spec_l4Many.j1, if_neg (by simp)]
theorem many_loopT (d : Nat) (hd : d ≤ 100) (l : List ISt) (hl : l.length ≤ 1048576) (ih : ∀ s ∈ l, manyT d s.f3 + manyT d s.f4 ≤ 1048576 → Ends (fun k => spec_l4Many.f k s.f3 (d : Int)) (manyT d s.f3 : Int) ∧ Ends (fun k => spec_l4Many.f k s.f4 (d : Int)) (manyT d s.f4 : Int)) :
  ∀ (e j : Nat) (n : Nat), j + e = l.length → n + ((l.drop j).map fun s => manyT d s.f3 + manyT d s.f4).sum ≤ 1048576 → Ends (fun k => spec_l4Many.l0 k l ((d + 1 : Nat) : Int) (n : Int) j) ((n + ((l.drop j).map fun s => manyT d s.f3 + manyT d s.f4).sum : Nat) : Int) := by
 intro e
 induction e with
 | zero =>
  intro j n hj hn
  refine Ends.succ (fun k => by rw [spec_l4Many.l0, if_neg (by omega)]) ?_
  refine Ends.succ (fun k => by rw [spec_l4Many.j1, if_neg (by simp)]) (Ends.const fun k => ?_)
  rw [List.drop_of_length_le (by omega)]; simp
 | succ e ihe =>
  intro j n hj hn
  have hjl : j < l.length := by omega
  have hdr : l.drop j = l[j] :: l.drop (j + 1) := List.drop_eq_getElem_cons hjl
  rw [hdr, List.map_cons, List.sum_cons] at hn ⊢
  refine Ends.succ (fun k => by rw [spec_l4Many.l0, if_pos (by omega), decide_eq_true (by omega)]) ?_
  refine Ends.succ (fun k => by rw [spec_l4Many.j1, if_pos rfl, if_pos (by omega), if_pos (by omega), rdI_st l j hjl, show wrap64 (((d + 1 : Nat) : Int) - 1) = (d : Int) by rw [wrap_in (by omega) (by omega)]; omega]) ?_
  obtain ⟨h3, h4⟩ := ih l[j] (List.getElem_mem hjl) (by omega)
  refine Ends.bind h3 (Ends.bind h4 ?_)
  have := ihe (j + 1) (n + (manyT d l[j].f3 + manyT d l[j].f4)) (by omega) (by omega)
  rw [Nat.add_assoc] at this
  refine this.of fun k => ?_
  rw [show wrap64 ((n : Int) + (manyT d l[j].f3 : Int)) = (n : Int) + (manyT d l[j].f3 : Int) from wrap_in (by omega) (by omega), show wrap64 ((n : Int) + (manyT d l[j].f3 : Int) + (manyT d l[j].f4 : Int)) = (n : Int) + (manyT d l[j].f3 : Int) + (manyT d l[j].f4 : Int) from wrap_in (by omega) (by omega), show wrap64 ((j : Int) + 1) = ((j + 1 : Nat) : Int) by rw [wrap_in (by omega) (by omega)]; omega]
  congr 1
  omega
theorem manyT_spec (d : Nat) : d ≤ 100 → ∀ l : List ISt, manyT d l ≤ 1048576 → Ends (fun k => spec_l4Many.f k l (d : Int)) (manyT d l : Int) := by
 induction d with
 | zero =>
  intro _ l hl
  rw [manyT] at *
  exact ⟨3, fun k hk => by obtain ⟨k', rfl⟩ : ∃ k', k = k' + 3 := ⟨k - 3, by omega⟩; exact many0_stop k' l (by omega)⟩
 | succ d ih =>
  intro hd l hl
  rw [manyT] at hl ⊢
  refine Ends.succ (fun k => by rw [spec_l4Many.f]) ?_
  have := many_loopT d (by omega) l (by omega) (fun s hs h => ⟨ih (by omega) s.f3 (by omega), ih (by omega) s.f4 (by omega)⟩) l.length 0 l.length (by omega) (by rw [List.drop_zero]; exact hl)
  rw [List.drop_zero] at this
  exact this
/-- One round of l4Form. -/
theorem form_headT (k : Nat) (l : List ISt) (x1 : Int) (j : Nat) (hj : j < l.length) : spec_l4Form.l0 (k + 1) l x1 (j : Int) = spec_l4Form.j2 k l x1 j (plainL l[j]) l[j].f0 l[j].f1.f0 l[j].f1.f1 l[j].f2.f0 l[j].f2.f1 l[j].f2.f2.f0 l[j].f2.f2.f1 l[j].f2.f3 l[j].f3 l[j].f4 := by
 rw [spec_l4Form.l0, if_pos (by omega), if_pos (by omega), rdI_st l j hj]
 generalize l[j] = s
 have hlen3 : ((s.f3.length : Int) == 0) = (s.f3.length == 0) := by rw [Bool.eq_iff_iff, beq_iff_eq, beq_iff_eq]; omega
 have hlen4 : ((s.f4.length : Int) == 0) = (s.f4.length == 0) := by rw [Bool.eq_iff_iff, beq_iff_eq, beq_iff_eq]; omega
 unfold plainL putsL
 simp only [addrOk_is, Option.bind_some]
 by_cases h1 : s.f0 = 1
 ·rw [if_pos h1, if_pos h1]
  cases ha : addrOkL s.f1.f0 s.f1.f1 with
  | false => rw [if_neg (by simp)]; simp
  | true =>
   rw [if_pos rfl]
   by_cases h2 : s.f1.f0 = 1
   ·rw [if_pos h2, h2]; simp
   ·rw [if_neg h2]
    by_cases h3 : s.f3.length = 0
    ·rw [if_pos (by omega), hlen4, h3, show (s.f1.f0 != 1) = true from bne_iff_ne.mpr h2]; simp
    ·rw [if_neg (by omega), show (s.f3.length == 0) = false from beq_false_of_ne h3]; simp
 ·rw [if_neg h1, if_neg h1]
  by_cases h2 : s.f0 = 2
  ·rw [if_pos h2, if_pos h2]
  ·rw [if_neg h2, if_neg h2]
   by_cases h3 : s.f0 = 3
   ·rw [if_pos h3, if_pos h3]
    cases hz : (s.f1.f0 == 0 && s.f1.f1 == 0) with
    | false => simp
    | true => simp [hlen4]
   ·rw [if_neg h3, if_neg h3]
def shortSt (s : ISt) : Prop := Short s.f2
theorem form_loopT (d : Nat) (hd : d ≤ 100) (l : List ISt) (hl : l.length ≤ 1048576) (hs : ∀ s ∈ l, Short s.f2) (ih : ∀ s ∈ l, Ends (fun k => spec_l4Form.f k s.f3 (d : Int)) (formT d s.f3) ∧ Ends (fun k => spec_l4Form.f k s.f4 (d : Int)) (formT d s.f4)) :
  ∀ (e j : Nat), j + e = l.length → Ends (fun k => spec_l4Form.l0 k l ((d + 1 : Nat) : Int) j) ((l.drop j).all fun s => headSt s && (formT d s.f3 && formT d s.f4)) := by
 intro e
 induction e with
 | zero =>
  intro j hj
  refine Ends.succ (fun k => by rw [spec_l4Form.l0, if_neg (by omega)]) (Ends.const fun k => ?_)
  rw [List.drop_of_length_le (by omega)]; rfl
 | succ e ihe =>
  intro j hj
  have hjl : j < l.length := by omega
  have hdr : l.drop j = l[j] :: l.drop (j + 1) := List.drop_eq_getElem_cons hjl
  rw [hdr, List.all_cons]
  refine Ends.succ (fun k => form_headT k l _ j hjl) ?_
  obtain ⟨h3, h4⟩ := ih l[j] (List.getElem_mem hjl)
  refine Ends.succ (fun k => by rw [spec_l4Form.j2, show wrap64 (((d + 1 : Nat) : Int) - 1) = (d : Int) by rw [wrap_in (by omega) (by omega)]; omega, show wrap64 ((j : Int) + 1) = ((j + 1 : Nat) : Int) by rw [wrap_in (by omega) (by omega)]; omega]) ?_
  cases hp : plainL l[j] with
  | false =>
   refine Ends.const fun k => ?_
   rw [if_neg (by simp), headSt, hp]; simp
  | true =>
   have hx := Ends.of_up (f := fun k => spec_ExprOk.f k l[j].f2.f0 l[j].f2.f1 l[j].f2.f2.f0 l[j].f2.f2.f1 l[j].f2.f3) (fun k => spec_ExprOk.mono _ _ _ _ _ k) (exprOk_spec l[j].f2 (hs l[j] (List.getElem_mem hjl)))
   rw [headSt, hp, Bool.true_and, okL_eq, Bool.and_assoc, Bool.and_assoc]
   rw [show (formS 6 l[j].f2 && (decide (manyS 6 l[j].f2 ≤ 14) && (formT d l[j].f3 && formT d l[j].f4 && (l.drop (j + 1)).all fun s => headSt s && (formT d s.f3 && formT d s.f4)))) = ((formS 6 l[j].f2 && decide (manyS 6 l[j].f2 ≤ 14)) && (formT d l[j].f3 && (formT d l[j].f4 && (l.drop (j + 1)).all fun s => headSt s && (formT d s.f3 && formT d s.f4)))) by simp only [Bool.and_assoc]]
   refine (and_part hx fun _ => and_part h3 fun _ => and_part h4 fun _ => ihe (j + 1) (by omega)).of fun k => ?_
   rw [if_pos rfl]
theorem formT_spec (d : Nat) : d ≤ 100 → ∀ l : List ISt, manyT d l ≤ 1048576 → (∀ s ∈ l, istOk s) → (∀ s : ISt, istOk s → Short s.f2) → Ends (fun k => spec_l4Form.f k l (d : Int)) (formT d l) := by
 induction d with
 | zero =>
  intro _ l hl ho hsh
  refine Ends.succ (fun k => by rw [spec_l4Form.f]) ?_
  cases l with
  | nil => exact ⟨2, fun k hk => by obtain ⟨k', rfl⟩ : ∃ k', k = k' + 2 := ⟨k - 2, by omega⟩; show (if (([] : List ISt).length : Int) > 0 then _ else spec_l4Form.j0 (k' + 2) [] 0 false) = _; rw [if_neg (by simp), spec_l4Form.j0, if_neg (by simp), spec_l4Form.l0, if_neg (by simp)]; rfl⟩
  | cons a l => exact ⟨1, fun k hk => by obtain ⟨k', rfl⟩ : ∃ k', k = k' + 1 := ⟨k - 1, by omega⟩; show (if ((a :: l).length : Int) > 0 then spec_l4Form.j0 (k' + 1) (a :: l) 0 (decide ((0 : Int) < 1)) else _) = _; rw [if_pos (by simp), spec_l4Form.j0, if_pos (by simp)]; rfl⟩
 | succ d ih =>
  intro hd l hl ho hsh
  have hkid : ∀ s ∈ l, manyT d s.f3 + manyT d s.f4 ≤ 1048576 := fun s hs => by
   have : manyT d s.f3 + manyT d s.f4 ≤ (l.map fun s => manyT d s.f3 + manyT d s.f4).sum := mem_sum _ _ (List.mem_map_of_mem (f := fun s => manyT d s.f3 + manyT d s.f4) hs)
   rw [manyT] at hl
   omega
  have hll : l.length ≤ 1048576 := by rw [manyT] at hl; omega
  have hlo := form_loopT d (by omega) l hll (fun s hs => hsh s (ho s hs)) (fun s hs => ⟨ih (by omega) s.f3 (by have := hkid s hs; omega) ((istOk_eq s).1 (ho s hs)).2.1.2 hsh, ih (by omega) s.f4 (by have := hkid s hs; omega) ((istOk_eq s).1 (ho s hs)).2.2.2 hsh⟩) l.length 0 (by omega)
  rw [List.drop_zero] at hlo
  rw [formT]
  refine Ends.succ (g := fun k => spec_l4Form.j0 k l ((d + 1 : Nat) : Int) false) (fun k => ?_) (Ends.succ (fun k => by rw [spec_l4Form.j0, if_neg (by simp)]; rfl) hlo)
  rw [spec_l4Form.f]
  by_cases h : (l.length : Int) > 0
  ·rw [if_pos h, decide_eq_false (by omega)]
  ·rw [if_neg h]
end Go.Proofs.Ytddnijmgipffeaa.B
