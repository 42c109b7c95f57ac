import Derived.Test.YtendbgedpjcocaaGreatDoorB0
import Derived.Outline
import Derived.Test.YtendbgedpjcocaaGreatDoorJnF
import Derived.Test.YtendbgedpjcocaaGreatDoorJnJ
import Derived.Test.YtendbgedpjcocaaGreatDoorPkA
import Derived.Test.YtendbgedpjcocaaGreatDoorJnB
import Derived.Test.YtendbgedpjcocaaGreatDoorJnH
/- Worlds in which only whole numbers of some blocks have been written over: what the laws' own marks do. -/
namespace Go.Proofs.YtendbgedpjcocaaGreatDoor.B
open Go.RowKit Go.Proofs.YtendbgedpjcocaaGreatDoorW.PrintWords Go.Proofs.YtendbgedpjcocaaGreatDoorW.PrintLast Go.Proofs.YtendbgedpjcocaaGreatDoorW.PrintMore
set_option linter.unusedVariables false

def SameInt (a b : Option Value) : Prop := b = a ∨ ∃ z z' : Int, a = some (.int .i64 z) ∧ b = some (.int .i64 z')
/-- Elder blocks stay, but for whole numbers in blocks of F. -/
structure Ed (F : Nat → Prop) (w w' : World) : Prop where
 os : w'.os = w.os
 tape : w'.tape = w.tape
 output : w'.output = w.output
 size : w.heap.size ≤ w'.heap.size
 far : ∀ i, i < w.heap.size → ¬ F i → w'.heap[i]? = w.heap[i]?
 near : ∀ i (cs : Array Value) (t : TypeId), F i → w.heap[i]? = some (.cells cs t (0, 0)) → ∃ cs' : Array Value, w'.heap[i]? = some (.cells cs' t (0, 0)) ∧ cs'.size = cs.size ∧ ∀ j : Nat, SameInt cs[j]? cs'[j]?
theorem SameInt.trans {a b c : Option Value} (h : SameInt a b) (k : SameInt b c) : SameInt a c := by
 rcases h with rfl | ⟨z, z', rfl, rfl⟩
 ·exact k
 ·rcases k with rfl | ⟨y, y', h1, rfl⟩
  ·exact .inr ⟨z, z', rfl, rfl⟩
  ·exact .inr ⟨z, y', rfl, rfl⟩
theorem Ed.refl (F : Nat → Prop) (w : World) : Ed F w w := ⟨rfl, rfl, rfl, Nat.le_refl _, fun _ _ _ => rfl, fun i cs t _ h => ⟨cs, h, rfl, fun _ => .inl rfl⟩⟩
theorem Ed.trans {F : Nat → Prop} {w w1 w2 : World} (h : Ed F w w1) (k : Ed F w1 w2) : Ed F w w2 :=
 ⟨k.os.trans h.os, k.tape.trans h.tape, k.output.trans h.output, Nat.le_trans h.size k.size, fun i hi hn => (k.far i (Nat.lt_of_lt_of_le hi h.size) hn).trans (h.far i hi hn), fun i cs t hf hc => by
  obtain ⟨c1, h1, s1, q1⟩ := h.near i cs t hf hc
  obtain ⟨c2, h2, s2, q2⟩ := k.near i c1 t hf h1
  exact ⟨c2, h2, s2.trans s1, fun j => (q1 j).trans (q2 j)⟩⟩
theorem Ed.of_below {F : Nat → Prop} {w w' : World} (h : Below w.heap.size w w') : Ed F w w' :=
 ⟨h.os, h.tape, h.output, h.size, fun i hi _ => h.block i hi, fun i cs t _ hc => ⟨cs, (h.block i (blk_lt hc)).trans hc, rfl, fun _ => .inl rfl⟩⟩
theorem Ed.set {F : Nat → Prop} {w : World} {g t : Nat} {cur : Array Value} (hF : F g) (hb : w.heap[g]? = some (.cells cur t (0, 0))) (i : Nat) (z : Int) (hi : cur[i]? = some (.int .i64 z)) (z' : Int) : Ed F w (w.setCell ⟨g, i, none⟩ (.int .i64 z')) := by
 have hs : (w.setCell ⟨g, i, none⟩ (.int .i64 z')).heap[g]? = some (.cells (cur.setIfInBounds i (.int .i64 z')) t (0, 0)) := blk_set hb i _
 have ho : ∀ k, k ≠ g → (w.setCell ⟨g, i, none⟩ (.int .i64 z')).heap[k]? = w.heap[k]? := fun k hk => Below.heap_setCell w _ _ k hk
 refine ⟨rfl, rfl, rfl, ?_, fun k hk hn => ho k (fun h => hn (h ▸ hF)), fun k cs t' hf hc => ?_⟩
 ·refine Nat.le_of_not_lt (fun h => ?_)
  by_cases hg : (w.setCell ⟨g, i, none⟩ (.int .i64 z')).heap.size = g
  ·have := blk_lt hs; omega
  ·have h1 := ho _ hg
   rw [Array.getElem?_eq_none (Nat.le_refl _), Array.getElem?_eq_getElem h] at h1
   cases h1
 ·by_cases hk : k = g
  ·subst hk
   rw [hb] at hc
   injection hc with hc
   injection hc with h1 h2
   subst h1 h2
   refine ⟨_, hs, by simp, fun j => ?_⟩
   by_cases hj : i = j
   ·subst hj
    refine .inr ⟨z, z', hi, ?_⟩
    rw [Array.getElem?_setIfInBounds_self_of_lt]
    exact (Array.getElem?_eq_some_iff.1 hi).1
   ·exact .inl (Array.getElem?_setIfInBounds_ne hj)
  ·exact ⟨cs, (ho k hk).trans hc, rfl, fun _ => .inl rfl⟩
theorem Ed.below {F : Nat → Prop} {w w' : World} {B : Nat} (h : Ed F w w') (hF : ∀ b, F b → B ≤ b) (hB : B ≤ w.heap.size) : Below B w w' :=
 ⟨h.os, h.tape, h.output, h.size, fun k hk => h.far k (by omega) (fun hf => by have := hF k hf; omega)⟩
end Go.Proofs.YtendbgedpjcocaaGreatDoor.B
/- Plain law: the specification's own reckoning of StmtsOk and StmtsMany ends, and says what count says. -/
namespace Go.Proofs.YtendbgedpjcocaaGreatDoor.B
open Go.RowKit Go.Proofs.YtendbgedpjcocaaGreatDoorW.PrintWords Go.Proofs.YtendbgedpjcocaaGreatDoorW.PrintLast Go.Proofs.YtendbgedpjcocaaGreatDoorW.PrintMore
set_option linter.unusedVariables false

theorem Ends.of_up {α : Type} {f : Nat → Option α} {r : α} (hm : ∀ k, LeO (f k) (f (k + 1))) (h : ∃ k, f k = some r) : Ends f r := by
 obtain ⟨k, hk⟩ := h
 exact ⟨k, fun k' hk' => up_le hm hk' hk⟩
theorem and_part {f g : Nat → Option Bool} {a b : Bool} (hf : Ends f a) (hg : a = true → Ends g b) : Ends (fun k => (f k).bind fun t => if t = true then g k else some false) (a && b) := by
 refine hf.bind (g := fun k t => if t = true then g k else some false) ?_
 cases a with
 | false => exact Ends.const fun k => rfl
 | true => exact (hg rfl).of fun k => by rw [if_pos rfl]
/-- How many statements there are, up to so deep. -/
def manyT : Nat → List ISt → Nat
 | 0, l => l.length
 | d + 1, l => l.length + (l.map fun s => manyT d s.f3 + manyT d s.f4).sum
def formT : Nat → List ISt → Bool
 | 0, l => l.isEmpty
 | d + 1, l => l.all fun s => headSt s && (formT d s.f3 && formT d s.f4)
theorem many0_stop (k : Nat) (l : List ISt) (hl : l.length ≤ 9223372036854775807) : spec_l4Many.f (k + 3) l 0 = some (l.length : Int) := by
 rw [spec_l4Many.f, spec_l4Many.l0]
 by_cases h : (0 : Int) < (l.length : Int)
 ·rw [if_pos h, decide_eq_false (by omega), spec_l4Many.j1, if_neg (by simp)]
 ·rw [if_neg h, spec_l4Many.j1, if_neg (by simp)]
theorem many_loopT (d : Nat) (hd : d ≤ 100) (l : List ISt) (hl : l.length ≤ 1048576) (ih : ∀ s ∈ l, manyT d s.f3 + manyT d s.f4 ≤ 1048576 → Ends (fun k => spec_l4Many.f k s.f3 (d : Int)) (manyT d s.f3 : Int) ∧ Ends (fun k => spec_l4Many.f k s.f4 (d : Int)) (manyT d s.f4 : Int)) :
  ∀ (e j : Nat) (n : Nat), j + e = l.length → n + ((l.drop j).map fun s => manyT d s.f3 + manyT d s.f4).sum ≤ 1048576 → Ends (fun k => spec_l4Many.l0 k l ((d + 1 : Nat) : Int) (n : Int) j) ((n + ((l.drop j).map fun s => manyT d s.f3 + manyT d s.f4).sum : Nat) : Int) := by
 intro e
 induction e with
 | zero =>
  intro j n hj hn
  refine Ends.succ (fun k => by rw [spec_l4Many.l0, if_neg (by omega)]) ?_
  refine Ends.succ (fun k => by rw [spec_l4Many.j1, if_neg (by simp)]) (Ends.const fun k => ?_)
  rw [List.drop_of_length_le (by omega)]; simp
 | succ e ihe =>
  intro j n hj hn
  have hjl : j < l.length := by omega
  have hdr : l.drop j = l[j] :: l.drop (j + 1) := List.drop_eq_getElem_cons hjl
  rw [hdr, List.map_cons, List.sum_cons] at hn ⊢
  refine Ends.succ (fun k => by rw [spec_l4Many.l0, if_pos (by omega), decide_eq_true (by omega)]) ?_
  refine Ends.succ (fun k => by rw [spec_l4Many.j1, if_pos rfl, if_pos (by omega), if_pos (by omega), rdI_st l j hjl, show wrap64 (((d + 1 : Nat) : Int) - 1) = (d : Int) by rw [wrap_in (by omega) (by omega)]; omega]) ?_
  obtain ⟨h3, h4⟩ := ih l[j] (List.getElem_mem hjl) (by omega)
  refine Ends.bind h3 (Ends.bind h4 ?_)
  have := ihe (j + 1) (n + (manyT d l[j].f3 + manyT d l[j].f4)) (by omega) (by omega)
  rw [Nat.add_assoc] at this
  refine this.of fun k => ?_
  rw [show wrap64 ((n : Int) + (manyT d l[j].f3 : Int)) = (n : Int) + (manyT d l[j].f3 : Int) from wrap_in (by omega) (by omega), show wrap64 ((n : Int) + (manyT d l[j].f3 : Int) + (manyT d l[j].f4 : Int)) = (n : Int) + (manyT d l[j].f3 : Int) + (manyT d l[j].f4 : Int) from wrap_in (by omega) (by omega), show wrap64 ((j : Int) + 1) = ((j + 1 : Nat) : Int) by rw [wrap_in (by omega) (by omega)]; omega]
  congr 1
  omega
theorem manyT_spec (d : Nat) : d ≤ 100 → ∀ l : List ISt, manyT d l ≤ 1048576 → Ends (fun k => spec_l4Many.f k l (d : Int)) (manyT d l : Int) := by
 induction d with
 | zero =>
  intro _ l hl
  rw [manyT] at *
  exact ⟨3, fun k hk => by obtain ⟨k', rfl⟩ : ∃ k', k = k' + 3 := ⟨k - 3, by omega⟩; exact many0_stop k' l (by omega)⟩
 | succ d ih =>
  intro hd l hl
  rw [manyT] at hl ⊢
  refine Ends.succ (fun k => by rw [spec_l4Many.f]) ?_
  have := many_loopT d (by omega) l (by omega) (fun s hs h => ⟨ih (by omega) s.f3 (by omega), ih (by omega) s.f4 (by omega)⟩) l.length 0 l.length (by omega) (by rw [List.drop_zero]; exact hl)
  rw [List.drop_zero] at this
  exact this
/-- One round of l4Form. -/
theorem form_headT (k : Nat) (l : List ISt) (x1 : Int) (j : Nat) (hj : j < l.length) : spec_l4Form.l0 (k + 1) l x1 (j : Int) = spec_l4Form.j2 k l x1 j (plainL l[j]) l[j].f0 l[j].f1.f0 l[j].f1.f1 l[j].f2.f0 l[j].f2.f1 l[j].f2.f2.f0 l[j].f2.f2.f1 l[j].f2.f3 l[j].f3 l[j].f4 := by
 rw [spec_l4Form.l0, if_pos (by omega), if_pos (by omega), rdI_st l j hj]
 generalize l[j] = s
 have hlen3 : ((s.f3.length : Int) == 0) = (s.f3.length == 0) := by rw [Bool.eq_iff_iff, beq_iff_eq, beq_iff_eq]; omega
 have hlen4 : ((s.f4.length : Int) == 0) = (s.f4.length == 0) := by rw [Bool.eq_iff_iff, beq_iff_eq, beq_iff_eq]; omega
 unfold plainL putsL
 simp only [addrOk_is, Option.bind_some]
 by_cases h1 : s.f0 = 1
 ·rw [if_pos h1, if_pos h1]
  cases ha : addrOkL s.f1.f0 s.f1.f1 with
  | false => rw [if_neg (by simp)]; simp
  | true =>
   rw [if_pos rfl]
   by_cases h2 : s.f1.f0 = 1
   ·rw [if_pos h2, h2]; simp
   ·rw [if_neg h2]
    by_cases h3 : s.f3.length = 0
    ·rw [if_pos (by omega), hlen4, h3, show (s.f1.f0 != 1) = true from bne_iff_ne.mpr h2]; simp
    ·rw [if_neg (by omega), show (s.f3.length == 0) = false from beq_false_of_ne h3]; simp
 ·rw [if_neg h1, if_neg h1]
  by_cases h2 : s.f0 = 2
  ·rw [if_pos h2, if_pos h2]
  ·rw [if_neg h2, if_neg h2]
   by_cases h3 : s.f0 = 3
   ·rw [if_pos h3, if_pos h3]
    cases hz : (s.f1.f0 == 0 && s.f1.f1 == 0) with
    | false => simp
    | true => simp [hlen4]
   ·rw [if_neg h3, if_neg h3]
theorem form_loopT (d : Nat) (hd : d ≤ 100) (l : List ISt) (hl : l.length ≤ 1048576) (hs : ∀ s ∈ l, Short s.f2) (ih : ∀ s ∈ l, Ends (fun k => spec_l4Form.f k s.f3 (d : Int)) (formT d s.f3) ∧ Ends (fun k => spec_l4Form.f k s.f4 (d : Int)) (formT d s.f4)) :
  ∀ (e j : Nat), j + e = l.length → Ends (fun k => spec_l4Form.l0 k l ((d + 1 : Nat) : Int) j) ((l.drop j).all fun s => headSt s && (formT d s.f3 && formT d s.f4)) := by
 intro e
 induction e with
 | zero =>
  intro j hj
  refine Ends.succ (fun k => by rw [spec_l4Form.l0, if_neg (by omega)]) (Ends.const fun k => ?_)
  rw [List.drop_of_length_le (by omega)]; rfl
 | succ e ihe =>
  intro j hj
  have hjl : j < l.length := by omega
  have hdr : l.drop j = l[j] :: l.drop (j + 1) := List.drop_eq_getElem_cons hjl
  rw [hdr, List.all_cons]
  refine Ends.succ (fun k => form_headT k l _ j hjl) ?_
  obtain ⟨h3, h4⟩ := ih l[j] (List.getElem_mem hjl)
  refine Ends.succ (fun k => by rw [spec_l4Form.j2, show wrap64 (((d + 1 : Nat) : Int) - 1) = (d : Int) by rw [wrap_in (by omega) (by omega)]; omega, show wrap64 ((j : Int) + 1) = ((j + 1 : Nat) : Int) by rw [wrap_in (by omega) (by omega)]; omega]) ?_
  cases hp : plainL l[j] with
  | false =>
   refine Ends.const fun k => ?_
   rw [if_neg (by simp), headSt, hp]; simp
  | true =>
   have hx := Ends.of_up (f := fun k => spec_ExprOk.f k l[j].f2.f0 l[j].f2.f1 l[j].f2.f2.f0 l[j].f2.f2.f1 l[j].f2.f3) (fun k => spec_ExprOk.mono _ _ _ _ _ k) (exprOk_spec l[j].f2 (hs l[j] (List.getElem_mem hjl)))
   rw [headSt, hp, Bool.true_and, okL_eq, Bool.and_assoc, Bool.and_assoc]
   rw [show (formS 6 l[j].f2 && (decide (manyS 6 l[j].f2 ≤ 14) && (formT d l[j].f3 && formT d l[j].f4 && (l.drop (j + 1)).all fun s => headSt s && (formT d s.f3 && formT d s.f4)))) = ((formS 6 l[j].f2 && decide (manyS 6 l[j].f2 ≤ 14)) && (formT d l[j].f3 && (formT d l[j].f4 && (l.drop (j + 1)).all fun s => headSt s && (formT d s.f3 && formT d s.f4)))) by simp only [Bool.and_assoc]]
   refine (and_part hx fun _ => and_part h3 fun _ => and_part h4 fun _ => ihe (j + 1) (by omega)).of fun k => ?_
   rw [if_pos rfl]
theorem formT_spec (d : Nat) : d ≤ 100 → ∀ l : List ISt, manyT d l ≤ 1048576 → (∀ s ∈ l, istOk s) → (∀ s : ISt, istOk s → Short s.f2) → Ends (fun k => spec_l4Form.f k l (d : Int)) (formT d l) := by
 induction d with
 | zero =>
  intro _ l hl ho hsh
  refine Ends.succ (fun k => by rw [spec_l4Form.f]) ?_
  cases l with
  | nil => exact ⟨2, fun k hk => by obtain ⟨k', rfl⟩ : ∃ k', k = k' + 2 := ⟨k - 2, by omega⟩; show (if (([] : List ISt).length : Int) > 0 then _ else spec_l4Form.j0 (k' + 2) [] 0 false) = _; rw [if_neg (by simp), spec_l4Form.j0, if_neg (by simp), spec_l4Form.l0, if_neg (by simp)]; rfl⟩
  | cons a l => exact ⟨1, fun k hk => by obtain ⟨k', rfl⟩ : ∃ k', k = k' + 1 := ⟨k - 1, by omega⟩; show (if ((a :: l).length : Int) > 0 then spec_l4Form.j0 (k' + 1) (a :: l) 0 (decide ((0 : Int) < 1)) else _) = _; rw [if_pos (by simp), spec_l4Form.j0, if_pos (by simp)]; rfl⟩
 | succ d ih =>
  intro hd l hl ho hsh
  have hkid : ∀ s ∈ l, manyT d s.f3 + manyT d s.f4 ≤ 1048576 := fun s hs => by
   have : manyT d s.f3 + manyT d s.f4 ≤ (l.map fun s => manyT d s.f3 + manyT d s.f4).sum := mem_sum _ _ (List.mem_map_of_mem (f := fun s => manyT d s.f3 + manyT d s.f4) hs)
   rw [manyT] at hl
   omega
  have hll : l.length ≤ 1048576 := by rw [manyT] at hl; omega
  have hlo := form_loopT d (by omega) l hll (fun s hs => hsh s (ho s hs)) (fun s hs => ⟨ih (by omega) s.f3 (by have := hkid s hs; omega) ((istOk_eq s).1 (ho s hs)).2.1.2 hsh, ih (by omega) s.f4 (by have := hkid s hs; omega) ((istOk_eq s).1 (ho s hs)).2.2.2 hsh⟩) l.length 0 (by omega)
  rw [List.drop_zero] at hlo
  rw [formT]
  refine Ends.succ (g := fun k => spec_l4Form.j0 k l ((d + 1 : Nat) : Int) false) (fun k => ?_) (Ends.succ (fun k => by rw [spec_l4Form.j0, if_neg (by simp)]; rfl) hlo)
  rw [spec_l4Form.f]
  by_cases h : (l.length : Int) > 0
  ·rw [if_pos h, decide_eq_false (by omega)]
  ·rw [if_neg h]
end Go.Proofs.YtendbgedpjcocaaGreatDoor.B
/- Plain law: count and the specification's reckoning of statements agree. -/
namespace Go.Proofs.YtendbgedpjcocaaGreatDoor.B
open Go.RowKit Go.Proofs.YtendbgedpjcocaaGreatDoorW.PrintWords Go.Proofs.YtendbgedpjcocaaGreatDoorW.PrintLast Go.Proofs.YtendbgedpjcocaaGreatDoorW.PrintMore
set_option linter.unusedVariables false

def stepOk (d : Nat) (s : ISt) : Bool := headSt s && (formT d s.f3 && formT d s.f4)
def stepN (d : Nat) (s : ISt) : Nat := 1 + manyT d s.f3 + manyT d s.f4
def CntR (r : Bool × Int) (b : Bool) (n : Int) : Prop := r.1 = (b && decide (n ≤ 16)) ∧ (r.1 = true → r.2 = n)
theorem step_law (d : Nat) (ih : ∀ (l : List ISt) (m : Int), m ≤ 16 → CntR (countL d l m) (formT d l) (m + manyT d l)) (s : ISt) (m : Int) (hm : m ≤ 16) : CntR (cntStep d s m) (stepOk d s) (m + stepN d s) := by
 unfold cntStep stepOk stepN
 by_cases h : (decide (m + 1 > 16) || !headSt s) = true
 ·rw [if_pos h]
  rw [Bool.or_eq_true, decide_eq_true_eq] at h
  refine ⟨?_, fun h => by cases h⟩
  rcases h with h | h
  ·rw [decide_eq_false (by omega), Bool.and_false]
  ·rw [Bool.not_eq_true'] at h
   rw [h]; rfl
 ·rw [if_neg h]
  simp only [Bool.or_eq_true, decide_eq_true_eq, not_or, Bool.not_eq_true', Bool.not_eq_false] at h
  rw [h.2, Bool.true_and]
  have h1 := ih s.f3 (m + 1) (by omega)
  cases hr : (countL d s.f3 (m + 1)).1 with
  | false =>
   simp only [hr]
   refine ⟨?_, fun h => by rw [if_neg (by simp)] at h; rw [hr] at h; cases h⟩
   rw [if_neg (by simp), hr]
   have := h1.1
   rw [hr] at this
   cases hf : formT d s.f3 with
   | false => rfl
   | true =>
    rw [hf, Bool.true_and] at this
    have := of_decide_eq_false this.symm
    rw [decide_eq_false (by omega), Bool.and_false]
  | true =>
   simp only [hr, if_true]
   have h2 := h1.2 hr
   have h3 := h1.1
   rw [hr] at h3
   have h4 := Bool.and_eq_true_iff.1 h3.symm
   have h5 := of_decide_eq_true h4.2
   have h6 := ih s.f4 (countL d s.f3 (m + 1)).2 (by rw [h2]; omega)
   rw [h4.1, Bool.true_and]
   rw [h2] at h6 ⊢
   rw [show m + ((1 + manyT d s.f3 + manyT d s.f4 : Nat) : Int) = m + 1 + (manyT d s.f3 : Int) + (manyT d s.f4 : Int) by omega]
   exact h6
theorem count_law (d : Nat) : ∀ (l : List ISt) (m : Int), m ≤ 16 → CntR (countL d l m) (formT d l) (m + manyT d l) := by
 induction d with
 | zero =>
  intro l m hm
  cases l with
  | nil => exact ⟨by show true = (true && decide (m + 0 ≤ 16)); rw [decide_eq_true (by omega)]; rfl, fun _ => by show m = m + 0; omega⟩
  | cons a l => exact ⟨rfl, fun h => by cases h⟩
 | succ d ih =>
  intro l
  induction l with
  | nil => intro m hm; exact ⟨by show true = (true && decide (m + 0 ≤ 16)); rw [decide_eq_true (by omega)]; rfl, fun _ => by show m = m + 0; omega⟩
  | cons a l ihl =>
   intro m hm
   have hs := step_law d ih a m hm
   rw [countL_succ, List.foldl_cons]
   have hf : formT (d + 1) (a :: l) = (stepOk d a && formT (d + 1) l) := rfl
   have hn : ((manyT (d + 1) (a :: l) : Nat) : Int) = (stepN d a : Int) + (manyT (d + 1) l : Int) := by
    have : manyT (d + 1) (a :: l) = stepN d a + manyT (d + 1) l := by
     rw [manyT, manyT, stepN, List.map_cons, List.sum_cons, List.length_cons]; omega
    omega
   rw [hf, hn]
   simp only [if_true]
   obtain ⟨r, hr⟩ : ∃ r, r = cntStep d a m := ⟨_, rfl⟩
   rw [← hr] at hs ⊢
   obtain ⟨b, n⟩ := r
   cases b with
   | false =>
    rw [cnt_stop]
    refine ⟨?_, fun h => by cases h⟩
    have h1 : false = (stepOk d a && decide (m + stepN d a ≤ 16)) := hs.1
    cases ha : stepOk d a with
    | false => rfl
    | true =>
     rw [ha, Bool.true_and] at h1
     have := of_decide_eq_false h1.symm
     rw [decide_eq_false (by omega), Bool.and_false]
   | true =>
    have h1 : true = (stepOk d a && decide (m + stepN d a ≤ 16)) := hs.1
    have h2 : n = m + stepN d a := hs.2 rfl
    have h4 := Bool.and_eq_true_iff.1 h1.symm
    have h5 := of_decide_eq_true h4.2
    have h6 := ihl n (by omega)
    rw [countL_succ] at h6
    rw [h4.1, Bool.true_and]
    rw [h2] at h6 ⊢
    rw [← Int.add_assoc]
    exact h6
/-- StmtsOk, StmtsMany: what they say. -/
theorem stOk_is (l : List ISt) : (countL 4 l 0).1 = (formT 4 l && decide (manyT 4 l ≤ 16)) := by
 rw [(count_law 4 l 0 (by omega)).1]
 congr 1
 by_cases h : manyT 4 l ≤ 16
 ·rw [decide_eq_true (by omega), decide_eq_true h]
 ·rw [decide_eq_false (by omega), decide_eq_false h]
end Go.Proofs.YtendbgedpjcocaaGreatDoor.B
/- Plain law: statements are run: what a run leaves, how it ends, how much fuel is left. -/
namespace Go.Proofs.YtendbgedpjcocaaGreatDoor.B
open Go.RowKit Go.Proofs.YtendbgedpjcocaaGreatDoorW.PrintWords Go.Proofs.YtendbgedpjcocaaGreatDoorW.PrintLast Go.Proofs.YtendbgedpjcocaaGreatDoorW.PrintMore
set_option linter.unusedVariables false

/-- A number is put at a place, cut, if something can be put there. -/
def putB (bs : List Int) (k a n : Int) : List Int := if putsL k a = true then bs.set ((k - 1) * 6 + a).toNat (cutL n) else bs
/-- The numbers, how it ends (0: well, 1: too long), the fuel that is left. -/
abbrev Res := List Int × Int × Int
/-- A list is run; with so many steps at most. -/
def runL : Nat → List Int → List St → Int → Option Res
 | 0, _, _, _ => none
 | _ + 1, bs, [], f => some (bs, 0, f)
 | k + 1, bs, s :: l, f =>
  (if s.f0 = 1 then some (putB bs s.f1.f0 s.f1.f1 (evalI bs s.f2), 0, f)
   else if s.f0 = 3 then (if evalI bs s.f2 = 0 then some (bs, 0, f) else (runL k bs s.f3 f).bind fun r => if r.2.1 = 0 then (if r.2.2 < 1 then some (r.1, 1, 0) else runL k r.1 [s] (r.2.2 - 1)) else some r)
   else runL k bs (if evalI bs s.f2 = 0 then s.f4 else s.f3) f).bind fun r => if r.2.1 = 0 then runL k r.1 l r.2.2 else some r
/-- The first of a list. -/
def stepR (k : Nat) (bs : List Int) (s : St) (f : Int) : Option Res :=
 if s.f0 = 1 then some (putB bs s.f1.f0 s.f1.f1 (evalI bs s.f2), 0, f)
 else if s.f0 = 3 then (if evalI bs s.f2 = 0 then some (bs, 0, f) else (runL k bs s.f3 f).bind fun r => if r.2.1 = 0 then (if r.2.2 < 1 then some (r.1, 1, 0) else runL k r.1 [s] (r.2.2 - 1)) else some r)
 else runL k bs (if evalI bs s.f2 = 0 then s.f4 else s.f3) f
theorem runL_nil (k : Nat) (bs : List Int) (f : Int) : runL (k + 1) bs [] f = some (bs, 0, f) := by rw [runL]
theorem runL_cons (k : Nat) (bs : List Int) (s : St) (l : List St) (f : Int) : runL (k + 1) bs (s :: l) f = (stepR k bs s f).bind fun r => if r.2.1 = 0 then runL k r.1 l r.2.2 else some r := by rw [runL]; rfl
theorem stepR_mono {k : Nat} (ih : ∀ bs l f, LeO (runL k bs l f) (runL (k + 1) bs l f)) (bs : List Int) (s : St) (f : Int) : LeO (stepR k bs s f) (stepR (k + 1) bs s f) := by
 intro r h
 unfold stepR at h ⊢
 by_cases h1 : s.f0 = 1
 ·rw [if_pos h1] at h ⊢; exact h
 ·rw [if_neg h1] at h ⊢
  by_cases h3 : s.f0 = 3
  ·rw [if_pos h3] at h ⊢
   by_cases he : evalI bs s.f2 = 0
   ·rw [if_pos he] at h ⊢; exact h
   ·rw [if_neg he] at h ⊢
    obtain ⟨r1, hr1, h⟩ := Option.bind_eq_some_iff.1 h
    rw [ih _ _ _ r1 hr1, Option.bind_some]
    by_cases hc : r1.2.1 = 0
    ·rw [if_pos hc] at h ⊢
     by_cases hf : r1.2.2 < 1
     ·rw [if_pos hf] at h ⊢; exact h
     ·rw [if_neg hf] at h ⊢; exact ih _ _ _ r h
    ·rw [if_neg hc] at h ⊢; exact h
  ·rw [if_neg h3] at h ⊢
   exact ih _ _ _ r h
theorem runL_mono : ∀ k bs l f, LeO (runL k bs l f) (runL (k + 1) bs l f) := by
 intro k
 induction k with
 | zero => intro bs l f r h; rw [runL] at h; cases h
 | succ k ih =>
  intro bs l f r h
  cases l with
  | nil => rw [runL_nil] at h ⊢; exact h
  | cons s l =>
   rw [runL_cons] at h ⊢
   obtain ⟨r1, hr1, h⟩ := Option.bind_eq_some_iff.1 h
   rw [stepR_mono ih bs s f r1 hr1, Option.bind_some]
   by_cases hc : r1.2.1 = 0
   ·rw [if_pos hc] at h ⊢; exact ih _ _ _ r h
   ·rw [if_neg hc] at h ⊢; exact h
theorem runL_up {k k' : Nat} (hk : k ≤ k') {bs : List Int} {l : List St} {f : Int} {r : Res} (h : runL k bs l f = some r) : runL k' bs l f = some r := up_le (f := fun k => runL k bs l f) (fun k => runL_mono k bs l f) hk h
theorem stepR_up {k k' : Nat} (hk : k ≤ k') {bs : List Int} {s : St} {f : Int} {r : Res} (h : stepR k bs s f = some r) : stepR k' bs s f = some r := up_le (f := fun k => stepR k bs s f) (fun k => stepR_mono (runL_mono k) bs s f) hk h
/-- A list's run. -/
def Run (bs : List Int) (l : List St) (f : Int) (r : Res) : Prop := ∃ k, runL k bs l f = some r
theorem Run.one {bs : List Int} {l : List St} {f : Int} {r r' : Res} (h : Run bs l f r) (h' : Run bs l f r') : r = r' := by
 obtain ⟨k, hk⟩ := h
 obtain ⟨k', hk'⟩ := h'
 have := (runL_up (Nat.le_max_left k k') hk).symm.trans (runL_up (Nat.le_max_right k k') hk')
 exact Option.some.inj this
theorem Run.nil (bs : List Int) (f : Int) : Run bs [] f (bs, 0, f) := ⟨1, runL_nil 0 bs f⟩
/-- The first's run. -/
def RunS (bs : List Int) (s : St) (f : Int) (r : Res) : Prop := ∃ k, stepR k bs s f = some r
theorem Run.cons {bs : List Int} {s : St} {l : List St} {f : Int} {r1 r : Res} (h : RunS bs s f r1) (h' : if r1.2.1 = 0 then Run r1.1 l r1.2.2 r else r = r1) : Run bs (s :: l) f r := by
 obtain ⟨k, hk⟩ := h
 by_cases hc : r1.2.1 = 0
 ·rw [if_pos hc] at h'
  obtain ⟨k', hk'⟩ := h'
  refine ⟨max k k' + 1, ?_⟩
  rw [runL_cons, stepR_up (Nat.le_max_left k k') hk, Option.bind_some, if_pos hc]
  exact runL_up (Nat.le_max_right k k') hk'
 ·rw [if_neg hc] at h'
  refine ⟨k + 1, ?_⟩
  rw [runL_cons, hk, Option.bind_some, if_neg hc, h']
theorem Run.uncons {bs : List Int} {s : St} {l : List St} {f : Int} {r : Res} (h : Run bs (s :: l) f r) : ∃ r1, RunS bs s f r1 ∧ (if r1.2.1 = 0 then Run r1.1 l r1.2.2 r else r = r1) := by
 obtain ⟨k, hk⟩ := h
 cases k with
 | zero => rw [runL] at hk; cases hk
 | succ k =>
  rw [runL_cons] at hk
  obtain ⟨r1, hr1, h⟩ := Option.bind_eq_some_iff.1 hk
  refine ⟨r1, ⟨k, hr1⟩, ?_⟩
  by_cases hc : r1.2.1 = 0
  ·rw [if_pos hc] at h ⊢; exact ⟨k, h⟩
  ·rw [if_neg hc] at h ⊢; exact (Option.some.inj h).symm
theorem RunS.set {bs : List Int} {s : St} {f : Int} (h1 : s.f0 = 1) : RunS bs s f (putB bs s.f1.f0 s.f1.f1 (evalI bs s.f2), 0, f) := ⟨0, by rw [stepR, if_pos h1]⟩
theorem RunS.if {bs : List Int} {s : St} {f : Int} {r : Res} (h1 : s.f0 = 2) (h : Run bs (if evalI bs s.f2 = 0 then s.f4 else s.f3) f r) : RunS bs s f r := by
 obtain ⟨k, hk⟩ := h
 exact ⟨k, by rw [stepR, if_neg (by omega), if_neg (by omega)]; exact hk⟩
theorem RunS.off {bs : List Int} {s : St} {f : Int} (h1 : s.f0 = 3) (he : evalI bs s.f2 = 0) : RunS bs s f (bs, 0, f) := ⟨0, by rw [stepR, if_neg (by omega), if_pos h1, if_pos he]⟩
theorem RunS.stop {bs : List Int} {s : St} {f : Int} {r : Res} (h1 : s.f0 = 3) (he : evalI bs s.f2 ≠ 0) (h : Run bs s.f3 f r) (hc : r.2.1 ≠ 0) : RunS bs s f r := by
 obtain ⟨k, hk⟩ := h
 exact ⟨k, by rw [stepR, if_neg (by omega), if_pos h1, if_neg he, hk, Option.bind_some, if_neg hc]⟩
theorem RunS.long {bs : List Int} {s : St} {f : Int} {r : Res} (h1 : s.f0 = 3) (he : evalI bs s.f2 ≠ 0) (h : Run bs s.f3 f r) (hc : r.2.1 = 0) (hf : r.2.2 < 1) : RunS bs s f (r.1, 1, 0) := by
 obtain ⟨k, hk⟩ := h
 exact ⟨k, by rw [stepR, if_neg (by omega), if_pos h1, if_neg he, hk, Option.bind_some, if_pos hc, if_pos hf]⟩
theorem RunS.again {bs : List Int} {s : St} {f : Int} {r r' : Res} (h1 : s.f0 = 3) (he : evalI bs s.f2 ≠ 0) (h : Run bs s.f3 f r) (hc : r.2.1 = 0) (hf : ¬ r.2.2 < 1) (h' : Run r.1 [s] (r.2.2 - 1) r') : RunS bs s f r' := by
 obtain ⟨k, hk⟩ := h
 obtain ⟨k', hk'⟩ := h'
 exact ⟨max k k', by rw [stepR, if_neg (by omega), if_pos h1, if_neg he, runL_up (Nat.le_max_left k k') hk, Option.bind_some, if_pos hc, if_neg hf]; exact runL_up (Nat.le_max_right k k') hk'⟩
theorem Run.single {bs : List Int} {s : St} {f : Int} {r : Res} : Run bs [s] f r ↔ RunS bs s f r := by
 constructor
 ·intro h
  obtain ⟨r1, h1, h2⟩ := h.uncons
  by_cases hc : r1.2.1 = 0
  ·rw [if_pos hc] at h2
   have := (Run.nil r1.1 r1.2.2).one h2
   obtain ⟨a, b, c⟩ := r1
   simp only at hc
   subst hc
   rw [← this]; exact h1
  ·rw [if_neg hc] at h2; rw [h2]; exact h1
 ·intro h
  refine Run.cons h ?_
  by_cases hc : r.2.1 = 0
  ·rw [if_pos hc]
   obtain ⟨a, b, c⟩ := r
   simp only at hc
   subst hc
   exact Run.nil a c
  ·rw [if_neg hc]
/-- What every run's end is like. -/
structure Fits (f : Int) (r : Res) : Prop where
 lo : 0 ≤ r.2.2
 hi : r.2.2 ≤ f
 how : r.2.1 = 0 ∨ r.2.1 = 1 ∧ r.2.2 = 0
theorem run_total (d : Nat) : ∀ l : List St, formT d l = true → ∀ (f : Int) (bs : List Int), 0 ≤ f → ∃ r, Run bs l f r ∧ Fits f r := by
 induction d with
 | zero =>
  intro l hl f bs hf
  cases l with
  | nil => exact ⟨_, Run.nil bs f, ⟨hf, Int.le_refl _, .inl rfl⟩⟩
  | cons s l => cases hl
 | succ d ih =>
  have one : ∀ s : St, headSt s = true → formT d s.f3 = true → formT d s.f4 = true → ∀ (n : Nat) (f : Int) (bs : List Int), 0 ≤ f → f.toNat ≤ n → ∃ r, RunS bs s f r ∧ Fits f r := by
   intro s hs h3 h4 n
   have hk : s.f0 = 1 ∨ s.f0 = 2 ∨ s.f0 = 3 := by
    unfold headSt plainL at hs
    by_cases h1 : s.f0 = 1
    ·exact .inl h1
    ·by_cases h2 : s.f0 = 2
     ·exact .inr (.inl h2)
     ·by_cases h3 : s.f0 = 3
      ·exact .inr (.inr h3)
      ·rw [if_neg h1, if_neg h2, if_neg h3] at hs; simp at hs
   induction n with
   | zero =>
    intro f bs hf hn
    obtain rfl : f = 0 := by omega
    rcases hk with h | h | h
    ·exact ⟨_, RunS.set h, ⟨Int.le_refl _, Int.le_refl _, .inl rfl⟩⟩
    ·obtain ⟨r, hr, hF⟩ := ih (if evalI bs s.f2 = 0 then s.f4 else s.f3) (by split <;> assumption) 0 bs hf
     exact ⟨r, RunS.if h hr, hF⟩
    ·by_cases he : evalI bs s.f2 = 0
     ·exact ⟨_, RunS.off h he, ⟨Int.le_refl _, Int.le_refl _, .inl rfl⟩⟩
     ·obtain ⟨r, hr, hF⟩ := ih s.f3 h3 0 bs hf
      by_cases hc : r.2.1 = 0
      ·exact ⟨_, RunS.long h he hr hc (by have := hF.hi; omega), ⟨Int.le_refl _, Int.le_refl _, .inr ⟨rfl, rfl⟩⟩⟩
      ·exact ⟨r, RunS.stop h he hr hc, hF⟩
   | succ n ihn =>
    intro f bs hf hn
    rcases hk with h | h | h
    ·exact ⟨_, RunS.set h, ⟨hf, Int.le_refl _, .inl rfl⟩⟩
    ·obtain ⟨r, hr, hF⟩ := ih (if evalI bs s.f2 = 0 then s.f4 else s.f3) (by split <;> assumption) f bs hf
     exact ⟨r, RunS.if h hr, hF⟩
    ·by_cases he : evalI bs s.f2 = 0
     ·exact ⟨_, RunS.off h he, ⟨hf, Int.le_refl _, .inl rfl⟩⟩
     ·obtain ⟨r, hr, hF⟩ := ih s.f3 h3 f bs hf
      by_cases hc : r.2.1 = 0
      ·by_cases hl : r.2.2 < 1
       ·exact ⟨_, RunS.long h he hr hc hl, ⟨Int.le_refl _, hf, .inr ⟨rfl, rfl⟩⟩⟩
       ·have h1 := hF.hi
        obtain ⟨r', hr', hF'⟩ := ihn (r.2.2 - 1) r.1 (by omega) (by omega)
        have h2 := hF'.hi
        exact ⟨r', RunS.again h he hr hc hl (Run.single.2 hr'), ⟨hF'.lo, by omega, hF'.how⟩⟩
      ·exact ⟨r, RunS.stop h he hr hc, hF⟩
  intro l
  induction l with
  | nil => intro _ f bs hf; exact ⟨_, Run.nil bs f, ⟨hf, Int.le_refl _, .inl rfl⟩⟩
  | cons s l ihl =>
   intro hl f bs hf
   have hl' : (headSt s && (formT d s.f3 && formT d s.f4)) = true ∧ formT (d + 1) l = true := by
    have : formT (d + 1) (s :: l) = ((headSt s && (formT d s.f3 && formT d s.f4)) && formT (d + 1) l) := rfl
    rw [this, Bool.and_eq_true] at hl; exact hl
   simp only [Bool.and_eq_true] at hl'
   obtain ⟨⟨hs, h3, h4⟩, hl2⟩ := hl'
   obtain ⟨r1, hr1, hF1⟩ := one s hs h3 h4 f.toNat f bs hf (Nat.le_refl _)
   by_cases hc : r1.2.1 = 0
   ·obtain ⟨r, hr, hF⟩ := ihl hl2 r1.2.2 r1.1 hF1.lo
    have h1 := hF.hi; have h2 := hF1.hi
    exact ⟨r, Run.cons hr1 (by rw [if_pos hc]; exact hr), ⟨hF.lo, by omega, hF.how⟩⟩
   ·exact ⟨r1, Run.cons hr1 (by rw [if_neg hc]), hF1⟩
/-- What holds at the beginning of a run and is kept by each number that is put holds at its end. -/
theorem run_keeps (P : List Int → Prop) : ∀ (k : Nat) (l : List St) (W : St → Prop), (∀ s, W s → ∀ x ∈ s.f3, W x) → (∀ s, W s → ∀ x ∈ s.f4, W x) → (∀ s, W s → s.f0 = 1 → ∀ bs, P bs → P (putB bs s.f1.f0 s.f1.f1 (evalI bs s.f2))) →
  (∀ s ∈ l, W s) → ∀ (bs : List Int) (f : Int) (r : Res), P bs → runL k bs l f = some r → P r.1 := by
 intro k
 induction k with
 | zero => intro l W _ _ _ _ bs f r _ h; rw [runL] at h; cases h
 | succ k ih =>
  intro l W h3 h4 hP hl bs f r hb h
  cases l with
  | nil => rw [runL_nil] at h; cases h; exact hb
  | cons s l =>
   rw [runL_cons] at h
   obtain ⟨r1, hr1, h⟩ := Option.bind_eq_some_iff.1 h
   have hs := hl s List.mem_cons_self
   have hp1 : P r1.1 := by
    unfold stepR at hr1
    by_cases k1 : s.f0 = 1
    ·rw [if_pos k1] at hr1; cases hr1; exact hP s hs k1 bs hb
    ·rw [if_neg k1] at hr1
     by_cases k3 : s.f0 = 3
     ·rw [if_pos k3] at hr1
      by_cases he : evalI bs s.f2 = 0
      ·rw [if_pos he] at hr1; cases hr1; exact hb
      ·rw [if_neg he] at hr1
       obtain ⟨r2, hr2, hr1⟩ := Option.bind_eq_some_iff.1 hr1
       have hp2 := ih s.f3 W h3 h4 hP (h3 s hs) bs f r2 hb hr2
       by_cases hc : r2.2.1 = 0
       ·rw [if_pos hc] at hr1
        by_cases hf : r2.2.2 < 1
        ·rw [if_pos hf] at hr1; cases hr1; exact hp2
        ·rw [if_neg hf] at hr1
         exact ih [s] W h3 h4 hP (fun x hx => by rw [List.mem_singleton] at hx; rw [hx]; exact hs) _ _ _ hp2 hr1
       ·rw [if_neg hc] at hr1; cases hr1; exact hp2
     ·rw [if_neg k3] at hr1
      refine ih _ W h3 h4 hP ?_ bs f r1 hb hr1
      split
      ·exact h4 s hs
      ·exact h3 s hs
   by_cases hc : r1.2.1 = 0
   ·rw [if_pos hc] at h
    exact ih l W h3 h4 hP (fun x hx => hl x (List.mem_cons_of_mem _ hx)) _ _ _ hp1 h
   ·rw [if_neg hc] at h; cases h; exact hp1
end Go.Proofs.YtendbgedpjcocaaGreatDoor.B
/- A drawn region whose last operation, or last two, behind all others, do whatever they do (append, store, a call that writes). -/
namespace Go.Proofs.YtendbgedpjcocaaGreatDoor.B
open Go Go.RowKit

section
variable {P : Program} {ops : Array Oper} {Q : Exit → Act → World → Prop} {md : Region.Mode}
/-- What stands before the operations of L, as far as n steps reach. -/
def reachW (ops : Array Oper) : Nat → List Nat → List Nat
 | 0, L => L
 | n + 1, L => reachW ops n (L ++ L.flatMap fun i => match ops[i]? with | some o => waitsOn o | none => []).eraseDups
theorem reachW_all {l : Nat → Bool} (hd : ∀ (i : Nat) (o : Oper), ops[i]? = some o → l i = true → ∀ j ∈ waitsOn o, l j = true) : ∀ (n : Nat) (L : List Nat), (∀ j ∈ L, l j = true) → ∀ j ∈ reachW ops n L, l j = true := by
 intro n
 induction n with
 | zero => exact fun _ h => h
 | succ n ih =>
  intro L h
  refine ih _ fun j hj => ?_
  rw [List.mem_eraseDups, List.mem_append] at hj
  rcases hj with hj | hj
  ·exact h j hj
  ·obtain ⟨i, hi, hji⟩ := List.mem_flatMap.1 hj
   cases ho : ops[i]? with
   | none => rw [ho] at hji; cases hji
   | some o => rw [ho] at hji; exact hd i o ho (h i hi) j hji
/-- A drawn region that makes memory, and whose last operation, behind all others, does whatever it does. -/
theorem weaveLast_ {id : Nat} {a0 : Act} {w : World} (m : Nat) (hm1 : ops.size = m + 1) (p : World → Prop) (hp : Lasts p) (h0 : p w) (ds : List (Tmp × Nat)) (Fs : List (Value → World → Prop)) (hm : P.follows .mixedOrders = true) (hB : weaveB ops ds = true) (hF : LastAll Fs)
  (hall : (match ops[m]? with | some o => (List.range m).all fun j => (reachW ops m (waitsOn o)).contains j | none => false) = true)
  (hwait : ((List.range m).all fun i => match ops[i]? with | some o => (waitsOn o).all fun j => decide (j < m) | none => true) = true)
  (hstep : OpsAll (fun i o => i < m → ∀ vs W, p W → (∀ j ∈ waitsOn o, FAt Fs j (vs j) W) → ∀ b, Sees a0 ds o vs b → StepOK P ops o b W fun v W' => Below W.heap.size W W' ∧ FAt Fs i v W') ops.toList 0)
  (Ψ : Value → World → Prop) (hlast : ∀ o, ops[m]? = some o → ∀ vs W, p W → (∀ j, j < m → FAt Fs j (vs j) W) → ∀ b, Sees a0 ds o vs b → StepOK P ops o b W Ψ)
  (hend : ∀ (vs : Nat → Value) W, Ψ (vs m) W → Q .normal (putL a0 (ds.map fun q => (q.1, vs q.2))) W) : (Code.region id ops true).wp P Q a0 w := by
 refine weave (fun l vs W => (∀ (i : Nat) (o : Oper), ops[i]? = some o → l i = true → ∀ j ∈ waitsOn o, l j = true) ∧ (l m = false → p W ∧ ∀ j, j < m → l j = true → FAt Fs j (vs j) W) ∧ (l m = true → Ψ (vs m) W)) ds hm hB ?_ ?_ ?_
 ·exact ⟨(fun _ _ _ h => absurd h (by simp)), (fun _ => ⟨hp _ _ (drew_below w) h0, (fun _ _ h => absurd h (by simp))⟩), (fun h => absurd h (by simp))⟩
 ·intro i o ho l vs W ⟨hc, hI, _⟩ hli hw b hsee
  have hlt := (Array.getElem?_eq_some_iff.1 ho).1
  obtain ⟨om, hom⟩ : ∃ o, ops[m]? = some o := ⟨ops[m], by simp [show m < ops.size by omega]⟩
  have hbelow : (∀ j ∈ waitsOn om, l j = true) → ∀ j, j < m → l j = true := fun hh j hj => by
   rw [hom] at hall
   exact reachW_all hc m _ hh j (by simpa using List.all_eq_true.1 hall j (List.mem_range.2 hj))
  have hdc : ∀ (i' : Nat) (o' : Oper), ops[i']? = some o' → (i' == i || l i') = true → ∀ j ∈ waitsOn o', (j == i || l j) = true := by
   intro i' o' ho' hh j hj
   by_cases hii : i' = i
   ·subst hii
    have : o' = o := Option.some.inj (ho'.symm.trans ho)
    subst this
    simp [hw j hj]
   ·have : l i' = true := by simpa [hii] using hh
    simp [hc i' o' ho' this j hj]
  by_cases hin : i < m
  ·have hlm : l m = false := by
    cases hq : l m with
    | false => rfl
    | true => rw [hbelow (hc m om hom hq) i hin] at hli; cases hli
   obtain ⟨h1, h2⟩ := hI hlm
   have hst := OpsAll.at ops.toList 0 hstep i o (by rw [Array.getElem?_toList]; exact ho)
   rw [Nat.zero_add] at hst
   have hmi : (m == i) = false := by simp; omega
   intro K Q' hK
   refine hst hin vs W h1 (fun j hj => ?_) b hsee K Q' fun v W' hv => hK v W' ⟨hdc, fun _ => ⟨hp _ _ hv.1 h1, fun j hj hlj => ?_⟩, fun hh => by simp [hmi, hlm] at hh⟩
   ·have hjm : j < m := by
     have := List.all_eq_true.1 hwait i (List.mem_range.2 hin)
     rw [ho] at this
     simpa using List.all_eq_true.1 this j hj
    exact h2 j hjm (hw j hj)
   ·by_cases hji : j = i
    ·subst hji
     simpa using hv.2
    ·simp only [hji, if_false]
     exact FAt.last Fs hF j _ _ _ hv.1 (h2 j hj (by simpa [hji] using hlj))
  ·have him : i = m := by omega
   subst him
   obtain ⟨h1, h2⟩ := hI hli
   have : o = om := Option.some.inj (ho.symm.trans hom)
   subst this
   have hl := hbelow hw
   intro K Q' hK
   exact hlast o ho vs W h1 (fun j hj => h2 j hj (hl j hj)) b hsee K Q' fun v W' hv => hK v W' ⟨hdc, fun hh => by simp at hh, fun _ => by simpa using hv⟩
 ·intro l vs W hl hI
  exact hend vs W (hI.2.2 (hl m (by omega)))
/-- A drawn region that makes memory, and whose last two operations, behind all others, do whatever they do, one behind the other. -/
theorem weaveTail_ {id : Nat} {a0 : Act} {w : World} (m : Nat) (hm1 : ops.size = m + 2) (p : World → Prop) (hp : Lasts p) (h0 : p w) (ds : List (Tmp × Nat)) (Fs : List (Value → World → Prop)) (hm : P.follows .mixedOrders = true) (hB : weaveB ops ds = true) (hF : LastAll Fs)
  (hall : (match ops[m]? with | some o => (List.range m).all fun j => (reachW ops m (waitsOn o)).contains j | none => false) = true)
  (hall2 : (match ops[m + 1]? with | some o => (waitsOn o).contains m | none => false) = true)
  (hwait : ((List.range m).all fun i => match ops[i]? with | some o => (waitsOn o).all fun j => decide (j < m) | none => true) = true)
  (hstep : OpsAll (fun i o => i < m → ∀ vs W, p W → (∀ j ∈ waitsOn o, FAt Fs j (vs j) W) → ∀ b, Sees a0 ds o vs b → StepOK P ops o b W fun v W' => Below W.heap.size W W' ∧ FAt Fs i v W') ops.toList 0)
  (Ψ Φ : Value → World → Prop) (hlast : ∀ o, ops[m]? = some o → ∀ vs W, p W → (∀ j, j < m → FAt Fs j (vs j) W) → ∀ b, Sees a0 ds o vs b → StepOK P ops o b W Ψ)
  (hlast2 : ∀ o, ops[m + 1]? = some o → ∀ vs W, Ψ (vs m) W → ∀ b, Sees a0 ds o vs b → StepOK P ops o b W Φ)
  (hend : ∀ (vs : Nat → Value) W, Φ (vs (m + 1)) W → Q .normal (putL a0 (ds.map fun q => (q.1, vs q.2))) W) : (Code.region id ops true).wp P Q a0 w := by
 refine weave (fun l vs W => (∀ (i : Nat) (o : Oper), ops[i]? = some o → l i = true → ∀ j ∈ waitsOn o, l j = true) ∧ (l m = false → p W ∧ ∀ j, j < m → l j = true → FAt Fs j (vs j) W) ∧ (l m = true → l (m + 1) = false → Ψ (vs m) W) ∧ (l (m + 1) = true → Φ (vs (m + 1)) W)) ds hm hB ?_ ?_ ?_
 ·exact ⟨(fun _ _ _ h => absurd h (by simp)), (fun _ => ⟨hp _ _ (drew_below w) h0, (fun _ _ h => absurd h (by simp))⟩), (fun h => absurd h (by simp)), (fun h => absurd h (by simp))⟩
 ·intro i o ho l vs W ⟨hc, hI, hJ, _⟩ hli hw b hsee
  have hlt := (Array.getElem?_eq_some_iff.1 ho).1
  have hom : ∃ o, ops[m]? = some o := ⟨ops[m], by simp [show m < ops.size by omega]⟩
  obtain ⟨om, hom⟩ := hom
  have hom1 : ∃ o, ops[m + 1]? = some o := ⟨ops[m + 1], by simp [show m + 1 < ops.size by omega]⟩
  obtain ⟨om1, hom1⟩ := hom1
  have hbelow : (∀ j ∈ waitsOn om, l j = true) → ∀ j, j < m → l j = true := fun hh j hj => by
   rw [hom] at hall
   exact reachW_all hc m _ hh j (by simpa using List.all_eq_true.1 hall j (List.mem_range.2 hj))
  have hm1m : l (m + 1) = true → l m = true := fun hh => hc _ _ hom1 hh m (by rw [hom1] at hall2; simpa using hall2)
  have hdc : ∀ (i' : Nat) (o' : Oper), ops[i']? = some o' → (i' == i || l i') = true → ∀ j ∈ waitsOn o', (j == i || l j) = true := by
   intro i' o' ho' hh j hj
   by_cases hii : i' = i
   ·subst hii
    have : o' = o := Option.some.inj (ho'.symm.trans ho)
    subst this
    simp [hw j hj]
   ·have : l i' = true := by simpa [hii] using hh
    simp [hc i' o' ho' this j hj]
  by_cases hin : i < m
  ·have hlm : l m = false := by
    cases hq : l m with
    | false => rfl
    | true => rw [hbelow (hc m om hom hq) i hin] at hli; cases hli
   have hlm1 : l (m + 1) = false := by
    cases hq : l (m + 1) with
    | false => rfl
    | true => rw [hm1m hq] at hlm; cases hlm
   obtain ⟨h1, h2⟩ := hI hlm
   have hst := OpsAll.at ops.toList 0 hstep i o (by rw [Array.getElem?_toList]; exact ho)
   rw [Nat.zero_add] at hst
   have hmi : (m == i) = false := by simp; omega
   have hmi1 : (m + 1 == i) = false := by simp; omega
   intro K Q' hK
   refine hst hin vs W h1 (fun j hj => ?_) b hsee K Q' fun v W' hv => hK v W' ⟨hdc, fun _ => ⟨hp _ _ hv.1 h1, fun j hj hlj => ?_⟩, fun hh => by simp [hmi, hlm] at hh, fun hh => by simp [hmi1, hlm1] at hh⟩
   ·have hjm : j < m := by
     have := List.all_eq_true.1 hwait i (List.mem_range.2 hin)
     rw [ho] at this
     simpa using List.all_eq_true.1 this j hj
    exact h2 j hjm (hw j hj)
   ·by_cases hji : j = i
    ·subst hji
     simpa using hv.2
    ·simp only [hji, if_false]
     exact FAt.last Fs hF j _ _ _ hv.1 (h2 j hj (by simpa [hji] using hlj))
  ·by_cases him : i = m
   ·subst him
    have hlm1 : l (i + 1) = false := by
     cases hq : l (i + 1) with
     | false => rfl
     | true => rw [hm1m hq] at hli; cases hli
    have : o = om := Option.some.inj (ho.symm.trans hom)
    subst this
    obtain ⟨h1, h2⟩ := hI hli
    intro K Q' hK
    exact hlast o ho vs W h1 (fun j hj => h2 j hj (hbelow hw j hj)) b hsee K Q' fun v W' hv => hK v W' ⟨hdc, fun hh => by simp at hh, fun _ _ => by simpa using hv, fun hh => by simp [hlm1] at hh⟩
   ·have hi1 : i = m + 1 := by omega
    subst hi1
    have : o = om1 := Option.some.inj (ho.symm.trans hom1)
    subst this
    have hlm : l m = true := hw m (by rw [hom1] at hall2; simpa using hall2)
    intro K Q' hK
    refine hlast2 o ho vs W (hJ hlm hli) b hsee K Q' fun v W' hv => hK v W' ⟨hdc, fun hh => by simp [hlm] at hh, fun _ hh => by simp at hh, fun _ => by simpa using hv⟩
 ·intro l vs W hl hI
  exact hend vs W (hI.2.2.2 (hl (m + 1) (by omega)))
/-- A drawn region that makes memory, whose values at S own new memory, each its own, and whose last two operations, behind all others, do whatever they do. -/
theorem weaveFresh_ {id : Nat} {a0 : Act} {w : World} (S : List Nat) (m : Nat) (hS : (S.all fun j => decide (j < m)) = true) (hm1 : ops.size = m + 2) (p : World → Prop) (hp : Lasts p) (h0 : p w) (ds : List (Tmp × Nat)) (Fs : List (Value → World → Prop)) (hm : P.follows .mixedOrders = true) (hB : weaveB ops ds = true) (hF : LastAll Fs)
  (hall : (match ops[m]? with | some o => (List.range m).all fun j => (reachW ops m (waitsOn o)).contains j | none => false) = true)
  (hall2 : (match ops[m + 1]? with | some o => (waitsOn o).contains m | none => false) = true)
  (hwait : ((List.range m).all fun i => match ops[i]? with | some o => (waitsOn o).all fun j => decide (j < m) | none => true) = true)
  (hstep : OpsAll (fun i o => i < m → ∀ vs W, p W → (∀ j ∈ waitsOn o, FAt Fs j (vs j) W) → ∀ b, Sees a0 ds o vs b → StepOK P ops o b W fun v W' => Below W.heap.size W W' ∧ FAt Fs i v W' ∧ (S.contains i = true → ∀ k, v.ownBlock = some k → W.heap.size ≤ k)) ops.toList 0)
  (hltS : ∀ j ∈ S, ∀ v W, FAt Fs j v W → ∀ k, v.ownBlock = some k → k < W.heap.size)
  (Ψ Φ : Value → World → Prop) (hlast : ∀ o, ops[m]? = some o → ∀ vs W, p W → (∀ j, j < m → FAt Fs j (vs j) W) → (∀ i ∈ S, ∀ j ∈ S, i ≠ j → ∀ k, (vs i).ownBlock = some k → (vs j).ownBlock ≠ some k) → ∀ b, Sees a0 ds o vs b → StepOK P ops o b W Ψ)
  (hlast2 : ∀ o, ops[m + 1]? = some o → ∀ vs W, Ψ (vs m) W → ∀ b, Sees a0 ds o vs b → StepOK P ops o b W Φ)
  (hend : ∀ (vs : Nat → Value) W, Φ (vs (m + 1)) W → Q .normal (putL a0 (ds.map fun q => (q.1, vs q.2))) W) : (Code.region id ops true).wp P Q a0 w := by
 refine weave (fun l vs W => (∀ (i : Nat) (o : Oper), ops[i]? = some o → l i = true → ∀ j ∈ waitsOn o, l j = true) ∧ (l m = false → (p W ∧ ∀ j, j < m → l j = true → FAt Fs j (vs j) W) ∧ (∀ i ∈ S, ∀ j ∈ S, i ≠ j → l i = true → l j = true → ∀ k, (vs i).ownBlock = some k → (vs j).ownBlock ≠ some k)) ∧ (l m = true → l (m + 1) = false → Ψ (vs m) W) ∧ (l (m + 1) = true → Φ (vs (m + 1)) W)) ds hm hB ?_ ?_ ?_
 ·exact ⟨(fun _ _ _ h => absurd h (by simp)), (fun _ => ⟨⟨hp _ _ (drew_below w) h0, (fun _ _ h => absurd h (by simp))⟩, fun _ _ _ _ _ h => absurd h (by simp)⟩), (fun h => absurd h (by simp)), (fun h => absurd h (by simp))⟩
 ·intro i o ho l vs W ⟨hc, hI, hJ, _⟩ hli hw b hsee
  have hlt := (Array.getElem?_eq_some_iff.1 ho).1
  have hom : ∃ o, ops[m]? = some o := ⟨ops[m], by simp [show m < ops.size by omega]⟩
  obtain ⟨om, hom⟩ := hom
  have hom1 : ∃ o, ops[m + 1]? = some o := ⟨ops[m + 1], by simp [show m + 1 < ops.size by omega]⟩
  obtain ⟨om1, hom1⟩ := hom1
  have hbelow : (∀ j ∈ waitsOn om, l j = true) → ∀ j, j < m → l j = true := fun hh j hj => by
   rw [hom] at hall
   exact reachW_all hc m _ hh j (by simpa using List.all_eq_true.1 hall j (List.mem_range.2 hj))
  have hm1m : l (m + 1) = true → l m = true := fun hh => hc _ _ hom1 hh m (by rw [hom1] at hall2; simpa using hall2)
  have hdc : ∀ (i' : Nat) (o' : Oper), ops[i']? = some o' → (i' == i || l i') = true → ∀ j ∈ waitsOn o', (j == i || l j) = true := by
   intro i' o' ho' hh j hj
   by_cases hii : i' = i
   ·subst hii
    have : o' = o := Option.some.inj (ho'.symm.trans ho)
    subst this
    simp [hw j hj]
   ·have : l i' = true := by simpa [hii] using hh
    simp [hc i' o' ho' this j hj]
  by_cases hin : i < m
  ·have hlm : l m = false := by
    cases hq : l m with
    | false => rfl
    | true => rw [hbelow (hc m om hom hq) i hin] at hli; cases hli
   have hlm1 : l (m + 1) = false := by
    cases hq : l (m + 1) with
    | false => rfl
    | true => rw [hm1m hq] at hlm; cases hlm
   obtain ⟨⟨h1, h2⟩, hap⟩ := hI hlm
   have hst := OpsAll.at ops.toList 0 hstep i o (by rw [Array.getElem?_toList]; exact ho)
   rw [Nat.zero_add] at hst
   have hmi : (m == i) = false := by simp; omega
   have hmi1 : (m + 1 == i) = false := by simp; omega
   intro K Q' hK
   refine hst hin vs W h1 (fun j hj => ?_) b hsee K Q' fun v W' hv => hK v W' ⟨hdc, fun _ => ⟨⟨hp _ _ hv.1 h1, fun j hj hlj => ?_⟩, fun x hx y hy hxy hlx hly k hk => ?_⟩, fun hh => by simp [hmi, hlm] at hh, fun hh => by simp [hmi1, hlm1] at hh⟩
   ·have hjm : j < m := by
     have := List.all_eq_true.1 hwait i (List.mem_range.2 hin)
     rw [ho] at this
     simpa using List.all_eq_true.1 this j hj
    exact h2 j hjm (hw j hj)
   ·by_cases hji : j = i
    ·subst hji
     simpa using hv.2.1
    ·simp only [hji, if_false]
     exact FAt.last Fs hF j _ _ _ hv.1 (h2 j hj (by simpa [hji] using hlj))
   ·have hxm : x < m := of_decide_eq_true (List.all_eq_true.1 hS x hx)
    have hym : y < m := of_decide_eq_true (List.all_eq_true.1 hS y hy)
    by_cases hxi : x = i
    ·have hyi : y ≠ i := fun e => hxy (hxi.trans e.symm)
     simp only [hxi, if_true] at hk
     simp only [hyi, if_false]
     intro hk'
     have q1 := hv.2.2 (by rw [← hxi]; exact List.contains_iff_mem.2 hx) k hk
     have q2 := hltS y hy _ _ (h2 y hym (by simpa [hyi] using hly)) k hk'
     omega
    ·simp only [hxi, if_false] at hk
     by_cases hyi : y = i
     ·simp only [hyi, if_true]
      intro hk'
      have q1 := hv.2.2 (by rw [← hyi]; exact List.contains_iff_mem.2 hy) k hk'
      have q2 := hltS x hx _ _ (h2 x hxm (by simpa [hxi] using hlx)) k hk
      omega
     ·simp only [hyi, if_false]
      exact hap x hx y hy hxy (by simpa [hxi] using hlx) (by simpa [hyi] using hly) k hk
  ·by_cases him : i = m
   ·subst him
    have hlm1 : l (i + 1) = false := by
     cases hq : l (i + 1) with
     | false => rfl
     | true => rw [hm1m hq] at hli; cases hli
    have : o = om := Option.some.inj (ho.symm.trans hom)
    subst this
    obtain ⟨⟨h1, h2⟩, hap⟩ := hI hli
    intro K Q' hK
    exact hlast o ho vs W h1 (fun j hj => h2 j hj (hbelow hw j hj)) (fun x hx y hy hxy => hap x hx y hy hxy (hbelow hw x (of_decide_eq_true (List.all_eq_true.1 hS x hx))) (hbelow hw y (of_decide_eq_true (List.all_eq_true.1 hS y hy)))) b hsee K Q' fun v W' hv => hK v W' ⟨hdc, fun hh => by simp at hh, fun _ _ => by simpa using hv, fun hh => by simp [hlm1] at hh⟩
   ·have hi1 : i = m + 1 := by omega
    subst hi1
    have : o = om1 := Option.some.inj (ho.symm.trans hom1)
    subst this
    have hlm : l m = true := hw m (by rw [hom1] at hall2; simpa using hall2)
    intro K Q' hK
    refine hlast2 o ho vs W (hJ hlm hli) b hsee K Q' fun v W' hv => hK v W' ⟨hdc, fun hh => by simp [hlm] at hh, fun _ hh => by simp at hh, fun _ => by simpa using hv⟩
 ·intro l vs W hl hI
  exact hend vs W (hI.2.2.2 (hl (m + 1) (by omega)))
end
end Go.Proofs.YtendbgedpjcocaaGreatDoor.B
/- impl's runner: one number put, one of the fuel taken. -/
namespace Go.Proofs.YtendbgedpjcocaaGreatDoor.B
open Go Go.RowKit Go.Shelf Go.Proofs.YtendbgedpjcocaaGreatDoorW.PrintWords Go.Proofs.YtendbgedpjcocaaGreatDoorW.PrintLast Go.Proofs.YtendbgedpjcocaaGreatDoorW.PrintMore
set_option linter.unusedVariables false

theorem mem_set {bs : List Int} (i : Nat) (n : Int) : ((bs.map (Value.int .i64)).toArray.setIfInBounds i (.int .i64 n)) = ((bs.set i n).map (Value.int .i64)).toArray := by
 apply Array.ext'
 rw [Array.toList_setIfInBounds]
 simp only [List.map_set]
theorem putB_len (bs : List Int) (k a n : Int) : (putB bs k a n).length = bs.length := by unfold putB; split <;> simp
set_option maxRecDepth 100000 in
set_option maxHeartbeats 4000000 in
theorem put_any (F : Nat → Prop) (g : Nat) (hF : F g) (bs : List Int) (k a n : Int) (w : World) (hm : MemAt w g bs) :
  Calls Tryz.prog 46 #[.pointer (some ⟨g, 0, none⟩), .agg #[.int .i64 k, .int .i64 a], .int .i64 n] w fun e w' => e = .returned (.tuple #[]) ∧ MemAt w' g (putB bs k a n) ∧ Ed F w w' := by
 have hb0 := heap_alloc_new w (.cells #[.int .i64 k, .int .i64 a] 24)
 have hB0 : Below w.heap.size w (w.alloc (.cells #[.int .i64 k, .int .i64 a] 24)) := (Below.refl _ _).alloc (Nat.le_refl _) _
 have HM := Aside0.mk (And.intro hm (And.intro hb0 (And.intro hB0 hF)))
 clear hm hb0 hB0 hF
 go_enter Tryz.func46, Tryz.ntmps46
 go_wp2_with fail
 refine (impl_puts.calls k a _ _ (puts_is k a)).mono ?_
 rintro e w1 ⟨rfl, hb1⟩
 have k1 := (hb1.block _ (blk_lt HM.out.2.1)).trans HM.out.2.1
 have c0 : w1.cell? ⟨w.heap.size, 0, none⟩ = some (.int .i64 k) := by rw [blk_cell k1]; rfl
 have c1 : w1.cell? ⟨w.heap.size, 1, none⟩ = some (.int .i64 a) := by rw [blk_cell k1]; rfl
 have HB := Aside0.mk (HM.out.2.2.1.trans (hb1.mono HM.out.2.2.1.size))
 clear hb1 k1
 cases hv : putsL k a with
 | false =>
  have HV := Aside0.mk hv
  clear hv
  go_wp2
  refine bodyPost_end (results_none rfl _ _ _) rfl ?_
  exact ⟨rfl, by rw [putB, if_neg (by rw [HV.out]; simp)]; exact HM.out.1.below HB.out, Ed.of_below HB.out⟩
 | true =>
  have hA : addrOkL k a = true := by unfold putsL at hv; simp only [Bool.and_eq_true] at hv; exact hv.1
  obtain ⟨hk, ha⟩ := addr_cases hA
  have hlt : ((k - 1) * 6 + a).toNat < 18 := by omega
  have HV := Aside0.mk (And.intro hv (And.intro hA hlt))
  clear hv hA hk ha hlt
  go_wp2_with fail
  refine (place_any g k a w1 HV.out.2.1).mono ?_
  rintro e w2 ⟨rfl, hb2⟩
  have HB2 := Aside0.mk (HB.out.trans (hb2.mono HB.out.size))
  clear hb2 c0 c1
  go_wp2_with fail
  refine (impl_NumCut.calls n (cutL n) w2 (cutI n)).mono ?_
  rintro e w3 ⟨rfl, hb3⟩
  have HB3 := Aside0.mk (HB2.out.trans (hb3.mono HB2.out.size))
  clear hb3
  have h3 := HM.out.1.below HB3.out
  obtain ⟨i, hi⟩ : ∃ i, i = ((k - 1) * 6 + a).toNat := ⟨_, rfl⟩
  have c2 := h3.cell _ (show i < 18 by rw [hi]; exact HV.out.2.2)
  have f2 : w3.frozen? ⟨g, i, none⟩ = false := blk_frozen h3.b i
  rw [← hi]
  have HI := Aside0.mk (And.intro hi h3)
  clear hi h3
  go_wp2
  refine bodyPost_end (results_none rfl _ _ _) rfl ?_
  have hi18 : i < 18 := by rw [HI.out.1]; exact HV.out.2.2
  have hcur : ((bs.map (Value.int .i64)).toArray)[i]? = some (.int .i64 (bs.getD i 0)) := by
   have := HI.out.2.n
   simp [List.getD_eq_getElem?_getD, List.getElem?_eq_getElem (show i < bs.length by omega)]
  refine ⟨rfl, ⟨?_, by rw [putB_len]; exact HI.out.2.n⟩, (Ed.of_below HB3.out).trans (Ed.set HM.out.2.2.2 HI.out.2.b i _ hcur _)⟩
  rw [putB, if_pos HV.out.1, ← HI.out.1, ← mem_set]
  exact blk_set HI.out.2.b i _
/-- A runner: its memory's numbers, its fuel. -/
structure RunAt (w : World) (gr gm : Nat) (bs : List Int) (f : Int) : Prop where
 m : MemAt w gm bs
 r : w.heap[gr]? = some (.cells #[.pointer (some ⟨gm, 0, none⟩), .int .i64 f] 69 (0, 0))
theorem RunAt.below {w w' : World} {gr gm : Nat} {bs : List Int} {f : Int} (h : RunAt w gr gm bs f) (hb : Below w.heap.size w w') : RunAt w' gr gm bs f := ⟨h.m.below hb, blk_below h.r hb⟩
/-- What a run may write over. -/
def Fm (gr gm : Nat) (b : Nat) : Prop := b = gr ∨ b = gm
set_option maxRecDepth 100000 in
theorem take_none (gr gm : Nat) (bs : List Int) (a : Addr) (w : World) (h : RunAt w gr gm bs 0) (he : ErrAt w a) :
  Calls Tryz.prog 124 #[.pointer (some ⟨gr, 0, none⟩)] w fun e w' => e = .returned (errOf a 1) ∧ w' = w := by
 have c1 : w.cell? ⟨gr, 1, none⟩ = some (.int .i64 0) := by rw [blk_cell h.r]; rfl
 have ce : w.cell? ⟨0, 0, none⟩ = some (.iface 156 (.pointer (some a))) := he
 clear h he
 go_enter Tryz.func124, Tryz.ntmps124
 go_wp2
 go_ret
 exact ⟨rfl, rfl⟩
set_option maxRecDepth 100000 in
theorem take_some (gr gm : Nat) (hne : gr ≠ gm) (bs : List Int) (f : Int) (w : World) (h : RunAt w gr gm bs f) (h0 : 0 < f) (h1 : f ≤ 100) :
  Calls Tryz.prog 124 #[.pointer (some ⟨gr, 0, none⟩)] w fun e w' => e = .returned .nilIface ∧ RunAt w' gr gm bs (f - 1) ∧ Ed (Fm gr gm) w w' := by
 have c1 : w.cell? ⟨gr, 1, none⟩ = some (.int .i64 f) := by rw [blk_cell h.r]; rfl
 have f1 : w.frozen? ⟨gr, 1, none⟩ = false := blk_frozen h.r 1
 have b0 : (f == 0) = false := beq_false_of_ne (by omega)
 have wf : IntKind.i64.wrap (f - 1) = f - 1 := by rw [IntKind.wrap_i64]; omega
 have HH := Aside0.mk (And.intro h hne)
 clear h hne h0 h1
 go_enter Tryz.func124, Tryz.ntmps124
 go_wp2
 go_ret
 refine ⟨rfl, ⟨⟨(Below.heap_setCell w _ _ gm (fun e => HH.out.2 e.symm)).trans HH.out.1.m.b, HH.out.1.m.n⟩, ?_⟩, Ed.set (.inl rfl) HH.out.1.r 1 f rfl _⟩
 exact (blk_set HH.out.1.r 1 _).trans rfl
end Go.Proofs.YtendbgedpjcocaaGreatDoor.B
/- impl's runner: one statement is done. -/
namespace Go.Proofs.YtendbgedpjcocaaGreatDoor.B
open Go Go.RowKit Go.Shelf Go.Proofs.YtendbgedpjcocaaGreatDoorW.PrintWords Go.Proofs.YtendbgedpjcocaaGreatDoorW.PrintLast Go.Proofs.YtendbgedpjcocaaGreatDoorW.PrintMore
set_option linter.unusedVariables false

theorem meth_do1 (v : Value) : ∀ w, (method 299 124 v "loop.example/stopgate/impl.do").run Tryz.prog w = .ok (125, v) w := fun _ => by kernel_rfl
theorem meth_do2 (v : Value) : ∀ w, (method 299 126 v "loop.example/stopgate/impl.do").run Tryz.prog w = .ok (128, v) w := fun _ => by kernel_rfl
theorem meth_do3 (v : Value) : ∀ w, (method 299 128 v "loop.example/stopgate/impl.do").run Tryz.prog w = .ok (131, v) w := fun _ => by kernel_rfl
theorem Ed.mono {F F' : Nat → Prop} {w w' : World} (h : Ed F w w') (hF : ∀ b, F b → F' b) : Ed F' w w' :=
 ⟨h.os, h.tape, h.output, h.size, fun i hi hn => h.far i hi (fun hf => hn (hF i hf)), fun i cs t hf hc => by
  by_cases hq : F i
  ·exact h.near i cs t hq hc
  ·exact ⟨cs, (h.far i (blk_lt hc) hq).trans hc, rfl, fun _ => .inl rfl⟩⟩
/-- What running leaves behind. -/
def RunPost (a : Addr) (gr gm : Nat) (r : Res) (w : World) (e : Ending) (w' : World) : Prop := e = .returned (errOf a r.2.1) ∧ RunAt w' gr gm r.1 r.2.2 ∧ Ed (Fm gr gm) w w'
/-- Where a run stands: younger than the lists that it does. -/
structure Env (w0 w : World) (gr gm : Nat) (a : Addr) : Prop where
 lr : w0.heap.size ≤ gr
 lm : w0.heap.size ≤ gm
 ne : gr ≠ gm
 er : ErrAt w0 a
 b : Below w0.heap.size w0 w
theorem Env.step {w0 w w' : World} {gr gm : Nat} {a : Addr} (h : Env w0 w gr gm a) (hE : Ed (Fm gr gm) w w') : Env w0 w' gr gm a :=
 ⟨h.lr, h.lm, h.ne, h.er, h.b.trans (hE.below (fun b hb => by rcases hb with rfl | rfl; exact h.lr; exact h.lm) h.b.size)⟩
theorem Env.below {w0 w w' : World} {gr gm : Nat} {a : Addr} (h : Env w0 w gr gm a) (hb : Below w.heap.size w w') : Env w0 w' gr gm a := h.step (Ed.of_below hb)
theorem Env.err {w0 w : World} {gr gm : Nat} {a : Addr} (h : Env w0 w gr gm a) : ErrAt w a := h.er.below h.b
abbrev eCells (x : Ex) (A : Option Addr) (c : Nat) : List Value := [.int .i64 x.f0, .int .i64 x.f1, .int .i64 x.f2.f0, .int .i64 x.f2.f1, .slice A x.f3.length c]
abbrev eAgg (x : Ex) (A : Option Addr) (c : Nat) : Value := .agg #[.int .i64 x.f0, .int .i64 x.f1, .int .i64 x.f2.f0, .int .i64 x.f2.f1, .slice A x.f3.length c]
theorem reckon_at (bs : List Int) (x : Ex) (he : formS 6 x = true) (g : Nat) (A : Option Addr) (c : Nat) (w : World) (hm : MemAt w g bs) (hC : Kd.C exK w A x.f3.length x.f3) (hc : x.f3.length ≤ c) :
  Calls Tryz.prog 49 #[.pointer (some ⟨g, 0, none⟩), eAgg x A c] w fun e w' => e = .returned (.int .i64 (evalI bs x)) ∧ Below w.heap.size w w' := by
 have h := reckon_any bs 6 x he g A c w hm hC hc
 simp only [List.append_toArray, List.nil_append, List.cons_append] at h
 exact h
set_option maxRecDepth 100000 in
set_option maxHeartbeats 4000000 in
theorem do_set (bs : List Int) (p q f : Int) (x : Ex) (he : formS 6 x = true) (a : Addr) (gr gm : Nat) (hne : gr ≠ gm) (A : Option Addr) (c : Nat) (w : World) (hR : RunAt w gr gm bs f) (hC : Kd.C exK w A x.f3.length x.f3) (hc : x.f3.length ≤ c) :
  Calls Tryz.prog 125 #[.agg #[.int .i64 p, .int .i64 q, .int .i64 x.f0, .int .i64 x.f1, .int .i64 x.f2.f0, .int .i64 x.f2.f1, .slice A x.f3.length c], .pointer (some ⟨gr, 0, none⟩)] w (RunPost a gr gm (putB bs p q (evalI bs x), 0, f) w) := by
 have mixed : Tryz.prog.follows .mixedOrders = true := rfl
 obtain ⟨w1, hw1⟩ : ∃ W, W = w.alloc (.cells #[.int .i64 p, .int .i64 q, .int .i64 x.f0, .int .i64 x.f1, .int .i64 x.f2.f0, .int .i64 x.f2.f1, .slice A x.f3.length c] 124 (0, 0)) := ⟨_, rfl⟩
 have hB : Below w.heap.size w w1 := by rw [hw1]; exact (Below.refl _ _).alloc (Nat.le_refl _) _
 have H1 := Aside0.mk (show Box w1 w.heap.size 124 #[.int .i64 p, .int .i64 q, .int .i64 x.f0, .int .i64 x.f1, .int .i64 x.f2.f0, .int .i64 x.f2.f1, .slice A x.f3.length c] ∧ RunAt w1 gr gm bs f ∧ Kd.C exK w1 A x.f3.length x.f3 ∧ Below w.heap.size w w1 ∧ gr ≠ gm from
  ⟨by rw [hw1]; exact heap_alloc_new _ _, hR.below hB, Kd.C_below hC hB, hB, hne⟩)
 have HE := Aside0.mk (And.intro he hc)
 clear hR hC hB hne he hc
 go_enter Tryz.func125, Tryz.ntmps125
 go_upto_region 1 with fail
 rw [← hw1]
 clear hw1
 refine weaveLast_ 13 rfl (fun W => Below w1.heap.size w1 W) (Lasts.below w1) (Below.refl _ _) [(5, 0), (6, 1), (7, 2), (8, 3), (9, 4), (10, 5), (11, 6), (12, 7), (13, 8), (14, 9), (15, 10), (16, 11), (17, 12), (18, 13)]
  [fun v _ => v = .pointer (some ⟨gr, 0, none⟩), fun v _ => v = .pointer (some ⟨gr, 0, none⟩), fun v _ => v = .pointer (some ⟨gr, 0, none⟩), fun v _ => v = .pointer (some ⟨gm, 0, none⟩), fun v _ => v = .pointer (some ⟨w.heap.size, 0, none⟩), fun v _ => v = .agg #[.int .i64 p, .int .i64 q],
   fun v _ => v = .pointer (some ⟨gr, 0, none⟩), fun v _ => v = .pointer (some ⟨gr, 0, none⟩), fun v _ => v = .pointer (some ⟨gr, 0, none⟩), fun v _ => v = .pointer (some ⟨gm, 0, none⟩), fun v _ => v = .pointer (some ⟨w.heap.size, 2, none⟩), fun v _ => v = eAgg x A c, fun v _ => v = .int .i64 (evalI bs x), fun _ _ => True]
  mixed (by kernel_rfl) ⟨fun _ => Lasts.const _, fun _ => Lasts.const _, fun _ => Lasts.const _, fun _ => Lasts.const _, fun _ => Lasts.const _, fun _ => Lasts.const _, fun _ => Lasts.const _, fun _ => Lasts.const _, fun _ => Lasts.const _, fun _ => Lasts.const _, fun _ => Lasts.const _, fun _ => Lasts.const _, fun _ => Lasts.const _, fun _ => Lasts.const _, trivial⟩
  (by kernel_rfl) (by kernel_rfl) ?_ (fun v W => v = .tuple #[] ∧ MemAt W gm (putB bs p q (evalI bs x)) ∧ Ed (fun b => b = gm) w1 W) ?_ ?_
 ·refine ⟨?_, ?_, ?_, ?_, ?_, ?_, ?_, ?_, ?_, ?_, ?_, ?_, ?_, ?_, trivial⟩
  ·intro _ vs W hp hv b hs
   have t1 := (hs.oldtm 1 rfl).trans (show _ = some (Value.pointer (some ⟨gr, 0, none⟩)) from rfl)
   exact stepVal rfl (by go_simp) ⟨Below.refl _ _, rfl⟩
  ·intro _ vs W hp hv b hs
   have h0 : vs 0 = .pointer (some ⟨gr, 0, none⟩) := hv 0 (by decide)
   have t5 := (hs.tm 5 0 rfl).trans (congrArg some h0)
   exact stepVal rfl (by go_simp) ⟨Below.refl _ _, rfl⟩
  ·intro _ vs W hp hv b hs
   have h1 : vs 1 = .pointer (some ⟨gr, 0, none⟩) := hv 1 (by decide)
   have t6 := (hs.tm 6 1 rfl).trans (congrArg some h1)
   exact stepVal rfl (by go_simp) ⟨Below.refl _ _, rfl⟩
  ·intro _ vs W hp hv b hs
   have h2 : vs 2 = .pointer (some ⟨gr, 0, none⟩) := hv 2 (by decide)
   have t7 := (hs.tm 7 2 rfl).trans (congrArg some h2)
   have cr := (Box.cell (blk_below H1.out.2.1.r hp) 0 _ rfl).1
   exact stepVal rfl (by go_simp) ⟨Below.refl _ _, rfl⟩
  ·intro _ vs W hp hv b hs
   have t2 := (hs.oldtm 2 rfl).trans (show _ = some (Value.pointer (some ⟨w.heap.size, 0, none⟩)) from rfl)
   exact stepVal rfl (by go_simp) ⟨Below.refl _ _, rfl⟩
  ·intro _ vs W hp hv b hs
   have h4 : vs 4 = .pointer (some ⟨w.heap.size, 0, none⟩) := hv 4 (by decide)
   have t9 := (hs.tm 9 4 rfl).trans (congrArg some h4)
   have k := blk_below H1.out.1 hp
   have c0 := (Box.cell k 0 _ rfl).1
   have c1 := (Box.cell k 1 _ rfl).1
   exact stepVal rfl (by go_simp) ⟨Below.refl _ _, rfl⟩
  ·intro _ vs W hp hv b hs
   have t1 := (hs.oldtm 1 rfl).trans (show _ = some (Value.pointer (some ⟨gr, 0, none⟩)) from rfl)
   exact stepVal rfl (by go_simp) ⟨Below.refl _ _, rfl⟩
  ·intro _ vs W hp hv b hs
   have h6 : vs 6 = .pointer (some ⟨gr, 0, none⟩) := hv 6 (by decide)
   have t11 := (hs.tm 11 6 rfl).trans (congrArg some h6)
   exact stepVal rfl (by go_simp) ⟨Below.refl _ _, rfl⟩
  ·intro _ vs W hp hv b hs
   have h7 : vs 7 = .pointer (some ⟨gr, 0, none⟩) := hv 7 (by decide)
   have t12 := (hs.tm 12 7 rfl).trans (congrArg some h7)
   exact stepVal rfl (by go_simp) ⟨Below.refl _ _, rfl⟩
  ·intro _ vs W hp hv b hs
   have h8 : vs 8 = .pointer (some ⟨gr, 0, none⟩) := hv 8 (by decide)
   have t13 := (hs.tm 13 8 rfl).trans (congrArg some h8)
   have cr := (Box.cell (blk_below H1.out.2.1.r hp) 0 _ rfl).1
   exact stepVal rfl (by go_simp) ⟨Below.refl _ _, rfl⟩
  ·intro _ vs W hp hv b hs
   have t2 := (hs.oldtm 2 rfl).trans (show _ = some (Value.pointer (some ⟨w.heap.size, 0, none⟩)) from rfl)
   exact stepVal rfl (by go_simp) ⟨Below.refl _ _, rfl⟩
  ·intro _ vs W hp hv b hs
   have h10 : vs 10 = .pointer (some ⟨w.heap.size, 2, none⟩) := hv 10 (by decide)
   have t15 := (hs.tm 15 10 rfl).trans (congrArg some h10)
   have k := blk_below H1.out.1 hp
   have c2 := (Box.cell k 2 _ rfl).1
   have c3 := (Box.cell k 3 _ rfl).1
   have c4 := (Box.cell k 4 _ rfl).1
   have c5 := (Box.cell k 5 _ rfl).1
   have c6 := (Box.cell k 6 _ rfl).1
   exact stepVal rfl (by go_simp) ⟨Below.refl _ _, rfl⟩
  ·intro _ vs W hp hv b hs
   have h9 : vs 9 = .pointer (some ⟨gm, 0, none⟩) := hv 9 (by decide)
   have h11 : vs 11 = eAgg x A c := hv 11 (by decide)
   refine stepCall rfl Tryz.func49 (by kernel_rfl) rfl #[vs 9, vs 11] rfl (by simp [Act.eval, hs.tm 14 9 rfl, hs.tm 16 11 rfl]) (by rw [h9, h11]; exact reckon_at bs x HE.out.1 gm A c W (H1.out.2.1.m.below hp) (Kd.C_below H1.out.2.2.1 hp) HE.out.2) ?_
   rintro e W' ⟨rfl, hb'⟩
   exact ⟨_, rfl, hb', rfl⟩
  ·intro h
   exact absurd h (by decide)
 ·intro o ho vs W hp hv b hs
  obtain rfl := Option.some.inj ho
  have h3 : vs 3 = .pointer (some ⟨gm, 0, none⟩) := hv 3 (by decide)
  have h5 : vs 5 = .agg #[.int .i64 p, .int .i64 q] := hv 5 (by decide)
  have h12 : vs 12 = .int .i64 (evalI bs x) := hv 12 (by decide)
  refine stepCall rfl Tryz.func46 (by kernel_rfl) rfl #[vs 3, vs 5, vs 12] rfl (by simp [Act.eval, hs.tm 8 3 rfl, hs.tm 10 5 rfl, hs.tm 17 12 rfl]) (by rw [h3, h5, h12]; exact put_any (fun b => b = gm) gm rfl bs p q _ W (H1.out.2.1.m.below hp)) ?_
  rintro e W' ⟨rfl, hm, hE⟩
  exact ⟨_, rfl, rfl, hm, (Ed.of_below hp).trans hE⟩
 ·rintro vs W ⟨_, hm, hE⟩
  have HF := Aside0.mk (show RunPost a gr gm (putB bs p q (evalI bs x), 0, f) w (.returned .nilIface) W from
   ⟨rfl, ⟨hm, (hE.far gr (blk_lt H1.out.2.1.r) H1.out.2.2.2.2).trans H1.out.2.1.r⟩, (Ed.of_below H1.out.2.2.2.1).trans (hE.mono fun b hb => .inr hb)⟩)
  simp only [List.map_cons, List.map_nil, putL, Act.put, List.setIfInBounds_toArray, List.set_cons_zero, List.set_cons_succ]
  clear hm hE
  go_wp2
  go_ret
  exact HF.out
set_option maxRecDepth 100000 in
set_option maxHeartbeats 4000000 in
theorem do_if (bs : List Int) (f : Int) (x : Ex) (he : formS 6 x = true) (r : Res) (a : Addr) (gr gm : Nat) (A : Option Addr) (c n1 n2 : Nat) (A1 : Option Addr) (c1 : Nat) (A2 : Option Addr) (c2 : Nat) (w : World) (hR : RunAt w gr gm bs f) (hC : Kd.C exK w A x.f3.length x.f3) (hc : x.f3.length ≤ c)
  (h1 : evalI bs x ≠ 0 → ∀ W, Below w.heap.size w W → RunAt W gr gm bs f → Calls Tryz.prog 37 #[.pointer (some ⟨gr, 0, none⟩), .slice A1 n1 c1] W (RunPost a gr gm r W))
  (h2 : evalI bs x = 0 → ∀ W, Below w.heap.size w W → RunAt W gr gm bs f → Calls Tryz.prog 37 #[.pointer (some ⟨gr, 0, none⟩), .slice A2 n2 c2] W (RunPost a gr gm r W)) :
  Calls Tryz.prog 128 #[.agg #[.int .i64 x.f0, .int .i64 x.f1, .int .i64 x.f2.f0, .int .i64 x.f2.f1, .slice A x.f3.length c, .slice A1 n1 c1, .slice A2 n2 c2], .pointer (some ⟨gr, 0, none⟩)] w (RunPost a gr gm r w) := by
 have mixed : Tryz.prog.follows .mixedOrders = true := rfl
 obtain ⟨w1, hw1⟩ : ∃ W, W = w.alloc (.cells #[.int .i64 x.f0, .int .i64 x.f1, .int .i64 x.f2.f0, .int .i64 x.f2.f1, .slice A x.f3.length c, .slice A1 n1 c1, .slice A2 n2 c2] 126 (0, 0)) := ⟨_, rfl⟩
 have hB : Below w.heap.size w w1 := by rw [hw1]; exact (Below.refl _ _).alloc (Nat.le_refl _) _
 have H1 := Aside0.mk (show Box w1 w.heap.size 126 #[.int .i64 x.f0, .int .i64 x.f1, .int .i64 x.f2.f0, .int .i64 x.f2.f1, .slice A x.f3.length c, .slice A1 n1 c1, .slice A2 n2 c2] ∧ RunAt w1 gr gm bs f ∧ Kd.C exK w1 A x.f3.length x.f3 ∧ Below w.heap.size w w1 from
  ⟨by rw [hw1]; exact heap_alloc_new _ _, hR.below hB, Kd.C_below hC hB, hB⟩)
 have HE := Aside0.mk (And.intro he hc)
 have HC := Aside0.mk (And.intro h1 h2)
 clear hR hC hB he hc h1 h2
 go_enter Tryz.func128, Tryz.ntmps128
 go_upto_region 1 with fail
 rw [← hw1]
 clear hw1
 refine weaveB_ (fun W => Below w1.heap.size w1 W) (Lasts.below w1) (Below.refl _ _) [(5, 0), (6, 1), (7, 2), (8, 3), (9, 4), (10, 5), (11, 6), (12, 7)]
  [fun v _ => v = .pointer (some ⟨gr, 0, none⟩), fun v _ => v = .pointer (some ⟨gr, 0, none⟩), fun v _ => v = .pointer (some ⟨gr, 0, none⟩), fun v _ => v = .pointer (some ⟨gm, 0, none⟩), fun v _ => v = .pointer (some ⟨w.heap.size, 0, none⟩), fun v _ => v = eAgg x A c, fun v _ => v = .int .i64 (evalI bs x), fun v _ => v = .bool (evalI bs x != 0)]
  mixed (by kernel_rfl) ⟨fun _ => Lasts.const _, fun _ => Lasts.const _, fun _ => Lasts.const _, fun _ => Lasts.const _, fun _ => Lasts.const _, fun _ => Lasts.const _, fun _ => Lasts.const _, fun _ => Lasts.const _, trivial⟩ ?_ ?_
 ·refine ⟨?_, ?_, ?_, ?_, ?_, ?_, ?_, ?_, trivial⟩
  ·intro vs W hp hv b hs
   have t1 := (hs.oldtm 1 rfl).trans (show _ = some (Value.pointer (some ⟨gr, 0, none⟩)) from rfl)
   exact stepVal rfl (by go_simp) ⟨Below.refl _ _, rfl⟩
  ·intro vs W hp hv b hs
   have h0 : vs 0 = .pointer (some ⟨gr, 0, none⟩) := hv 0 (by decide)
   have t5 := (hs.tm 5 0 rfl).trans (congrArg some h0)
   exact stepVal rfl (by go_simp) ⟨Below.refl _ _, rfl⟩
  ·intro vs W hp hv b hs
   have h1 : vs 1 = .pointer (some ⟨gr, 0, none⟩) := hv 1 (by decide)
   have t6 := (hs.tm 6 1 rfl).trans (congrArg some h1)
   exact stepVal rfl (by go_simp) ⟨Below.refl _ _, rfl⟩
  ·intro vs W hp hv b hs
   have h2 : vs 2 = .pointer (some ⟨gr, 0, none⟩) := hv 2 (by decide)
   have t7 := (hs.tm 7 2 rfl).trans (congrArg some h2)
   have cr := (Box.cell (blk_below H1.out.2.1.r hp) 0 _ rfl).1
   exact stepVal rfl (by go_simp) ⟨Below.refl _ _, rfl⟩
  ·intro vs W hp hv b hs
   have t2 := (hs.oldtm 2 rfl).trans (show _ = some (Value.pointer (some ⟨w.heap.size, 0, none⟩)) from rfl)
   exact stepVal rfl (by go_simp) ⟨Below.refl _ _, rfl⟩
  ·intro vs W hp hv b hs
   have h4 : vs 4 = .pointer (some ⟨w.heap.size, 0, none⟩) := hv 4 (by decide)
   have t9 := (hs.tm 9 4 rfl).trans (congrArg some h4)
   have k := blk_below H1.out.1 hp
   have c0 := (Box.cell k 0 _ rfl).1
   have c1' := (Box.cell k 1 _ rfl).1
   have c2' := (Box.cell k 2 _ rfl).1
   have c3 := (Box.cell k 3 _ rfl).1
   have c4 := (Box.cell k 4 _ rfl).1
   exact stepVal rfl (by go_simp) ⟨Below.refl _ _, rfl⟩
  ·intro vs W hp hv b hs
   have h3 : vs 3 = .pointer (some ⟨gm, 0, none⟩) := hv 3 (by decide)
   have h5 : vs 5 = eAgg x A c := hv 5 (by decide)
   refine stepCall rfl Tryz.func49 (by kernel_rfl) rfl #[vs 3, vs 5] rfl (by simp [Act.eval, hs.tm 8 3 rfl, hs.tm 10 5 rfl]) (by rw [h3, h5]; exact reckon_at bs x HE.out.1 gm A c W (H1.out.2.1.m.below hp) (Kd.C_below H1.out.2.2.1 hp) HE.out.2) ?_
   rintro e W' ⟨rfl, hb'⟩
   exact ⟨_, rfl, hb', rfl⟩
  ·intro vs W hp hv b hs
   have h6 : vs 6 = .int .i64 (evalI bs x) := hv 6 (by decide)
   refine stepCall rfl Tryz.func22 (by kernel_rfl) rfl #[vs 6] rfl (by simp [Act.eval, hs.tm 11 6 rfl]) (by rw [h6]; exact numOn_any _ W) ?_
   rintro e W' ⟨rfl, hb'⟩
   exact ⟨_, rfl, hb', rfl⟩
 ·intro vs W hp hv
  have h7 : vs 7 = .bool (evalI bs x != 0) := hv 7 (by decide)
  have HW := Aside0.mk (show Below w.heap.size w W ∧ RunAt W gr gm bs f from ⟨H1.out.2.2.2.trans (hp.mono H1.out.2.2.2.size), H1.out.2.1.below hp⟩)
  have k := blk_below H1.out.1 hp
  have k5 := (Box.cell k 5 _ rfl).1
  have k6 := (Box.cell k 6 _ rfl).1
  simp only [List.map_cons, List.map_nil, putL, Act.put, List.setIfInBounds_toArray, List.set_cons_zero, List.set_cons_succ, h7]
  clear hv hp h7 k
  by_cases h0 : evalI bs x = 0
  ·have b0 : (evalI bs x != 0) = false := by simp [h0]
   have HQ := Aside0.mk (HC.out.2 h0 W HW.out.1 HW.out.2)
   clear h0
   rw [b0]
   go_wp2_with fail
   refine HQ.out.mono ?_
   rintro e W' ⟨rfl, hr, hE⟩
   have HF := Aside0.mk (show RunPost a gr gm r w (.returned (errOf a r.2.1)) W' from ⟨rfl, hr, (Ed.of_below HW.out.1).trans hE⟩)
   clear hr hE HQ k5 k6
   generalize errOf a r.2.1 = ev at HF ⊢
   go_wp2
   go_ret
   exact HF.out
  ·have b0 : (evalI bs x != 0) = true := by simp [h0]
   have HQ := Aside0.mk (HC.out.1 h0 W HW.out.1 HW.out.2)
   clear h0
   rw [b0]
   go_wp2_with fail
   refine HQ.out.mono ?_
   rintro e W' ⟨rfl, hr, hE⟩
   have HF := Aside0.mk (show RunPost a gr gm r w (.returned (errOf a r.2.1)) W' from ⟨rfl, hr, (Ed.of_below HW.out.1).trans hE⟩)
   clear hr hE HQ k5 k6
   generalize errOf a r.2.1 = ev at HF ⊢
   go_wp2
   go_ret
   exact HF.out
end Go.Proofs.YtendbgedpjcocaaGreatDoor.B
