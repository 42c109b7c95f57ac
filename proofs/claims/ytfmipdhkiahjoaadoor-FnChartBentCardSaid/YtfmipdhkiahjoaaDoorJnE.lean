import Derived.Test.YtfmipdhkiahjoaaDoorB0
import Derived.Test.YtfmipdhkiahjoaaDoorJnF
import Derived.Test.YtfmipdhkiahjoaaDoorPkA
import Derived.Test.YtfmipdhkiahjoaaDoorExprOk
import Derived.Test.YtfmipdhkiahjoaaDoorJnH
/- A loop that asks the same of each place. -/
namespace Go.Proofs.YtfmipdhkiahjoaaDoor.B
open Go.RowKit Go.Proofs.YtfmipdhkiahjoaaDoorW.PrintWords Go.Proofs.YtfmipdhkiahjoaaDoorW.PrintLast Go.Proofs.YtfmipdhkiahjoaaDoorW.PrintMore
set_option linter.unusedVariables false
theorem all_loop {L : Nat → Int → Option Bool} {p : Nat → Bool} {b : Bool} (n : Nat) (hend : Ends (fun k => L k (n : Int)) b) (hstep : ∀ j r, j < n → Ends (fun k => L k ((j + 1 : Nat) : Int)) r → Ends (fun k => L k (j : Int)) (p j && r)) :
  Ends (fun k => L k 0) ((List.range n).all p && b) := by
 have h : ∀ d j, j + d = n → Ends (fun k => L k (j : Int)) ((List.range' j d).all p && b) := by
  intro d
  induction d with
  | zero =>
   intro j hj
   obtain rfl : j = n := by omega
   exact hend
  | succ d ih =>
   intro j hj
   rw [List.range'_succ, List.all_cons, Bool.and_assoc]
   exact hstep j _ (by omega) (ih (j + 1) (by omega))
 have := h n 0 (by omega)
 rw [← List.range_eq_range'] at this
 exact this
theorem and_part {f g : Nat → Option Bool} {a b : Bool} (hf : Ends f a) (hg : Ends g b) : Ends (fun k => (f k).bind fun t => if t = true then g k else some false) (a && b) := by
 refine hf.bind (g := fun k t => if t = true then g k else some false) ?_
 cases a with
 | false => exact Ends.const fun k => rfl
 | true => exact hg.of fun k => by rw [if_pos rfl]
theorem next_in {n j : Nat} (hn : n ≤ 9223372036854775807) (hj : j < n) : wrap64 ((j : Int) + 1) = ((j + 1 : Nat) : Int) := by rw [wrap_in (by omega) (by omega)]; omega
end Go.Proofs.YtfmipdhkiahjoaaDoor.B
/- Short names. -/
namespace Go.Proofs.YtfmipdhkiahjoaaDoor.B
abbrev ITr := S37
abbrev IAc := S39
end Go.Proofs.YtfmipdhkiahjoaaDoor.B
/- Expressions of the laws and of the program: bounds, inductions, rows. -/
namespace Go.Proofs.YtfmipdhkiahjoaaDoor.B
open Go.RowKit Go.Proofs.YtfmipdhkiahjoaaDoorW.PrintWords Go.Proofs.YtfmipdhkiahjoaaDoorW.PrintLast Go.Proofs.YtfmipdhkiahjoaaDoorW.PrintMore
set_option linter.unusedVariables false

abbrev LExT := S34
def iexOk : S34 → Prop
 | ⟨_, _, _, l⟩ => l.length ≤ 1048576 ∧ ∀ x ∈ l.attach, iexOk x.1
termination_by e => SizeOf.sizeOf e
decreasing_by have := List.sizeOf_lt_of_mem x.2; simp; omega
theorem iexOk_eq (e : S34) : iexOk e ↔ e.f3.length ≤ 1048576 ∧ ∀ x ∈ e.f3, iexOk x := by
 cases e with
 | mk a b c l => rw [iexOk]; simp
theorem iexInd {P : S34 → Prop} (h : ∀ e : S34, (∀ x ∈ e.f3, P x) → P e) : ∀ e, P e
 | ⟨a, b, c, l⟩ => h _ (fun x hx => iexInd h x)
termination_by e => SizeOf.sizeOf e
decreasing_by have := List.sizeOf_lt_of_mem hx; simp at this ⊢; omega
end Go.Proofs.YtfmipdhkiahjoaaDoor.B
/- Charts as values: bounds. -/
namespace Go.Proofs.YtfmipdhkiahjoaaDoor.B
open Go.RowKit Go.Proofs.YtfmipdhkiahjoaaDoorW.PrintWords Go.Proofs.YtfmipdhkiahjoaaDoorW.PrintLast Go.Proofs.YtfmipdhkiahjoaaDoorW.PrintMore
set_option linter.unusedVariables false
def itrOk (e : ITr) : Prop := e.f0.length ≤ 1048576 ∧ e.f1.length ≤ 1048576 ∧ iexOk e.f2
theorem rdI_tr (l : List ITr) (j : Nat) (h : j < l.length) : rd_T37 l (j : Int) = l[j] := by simp [rd_T37, h]
theorem rdI_ac (l : List IAc) (j : Nat) (h : j < l.length) : rd_T39 l (j : Int) = l[j] := by simp [rd_T39, h]
def chOk (a : List ITr) (b : List IAc) : Prop := (a.length ≤ 1048576 ∧ ∀ x ∈ a, itrOk x) ∧ b.length ≤ 1048576
end Go.Proofs.YtfmipdhkiahjoaaDoor.B
/- Plain law: the specification's own reckoning of ExprOk ends, and says so. -/
namespace Go.Proofs.YtfmipdhkiahjoaaDoor.B
open Go.RowKit Go.Proofs.YtfmipdhkiahjoaaDoorW.PrintWords Go.Proofs.YtfmipdhkiahjoaaDoorW.PrintLast Go.Proofs.YtfmipdhkiahjoaaDoorW.PrintMore
set_option linter.unusedVariables false

theorem up_le {α : Type} {f : Nat → Option α} (h : ∀ k, LeO (f k) (f (k + 1))) {k k' : Nat} (hk : k ≤ k') {r : α} (hr : f k = some r) : f k' = some r := by
 induction hk with
 | refl => exact hr
 | step _ ih => exact h _ _ ih
theorem rd_get (l : List Ex) (j : Nat) (h : j < l.length) : rd_T34 l (j : Int) = l[j] := by simp [rd_T34, h]
theorem wrap_small {n : Int} (h0 : -9223372036854775808 ≤ n) (h1 : n ≤ 9223372036854775807) : wrap64 n = n := by
 unfold wrap64
 omega
theorem numCut_is (n : Int) : spec_NumCut.f n = some (if n < -1000000 then -1000000 else if 1000000 < n then 1000000 else n) := by
 unfold spec_NumCut.f spec_l1Min.f spec_l1Max.f
 by_cases h1 : n < -1000000
 ·have : ¬ (1000000 : Int) < n := by omega
  simp [h1, this]
 ·by_cases h2 : (1000000 : Int) < n
  ·simp [h1, h2]
  ·have h3 : n > -1000000 ∨ n = -1000000 := by omega
   rcases h3 with h3 | h3
   ·simp [h1, h2]
   ·subst h3; simp
theorem addrOk_is (a b : Int) : spec_AddrOk.f a b = some (addrOkL a b) := by
 unfold spec_AddrOk.f addrOkL
 by_cases h : 1 ≤ a <;> by_cases h' : a ≤ 3 <;> by_cases h'' : 0 ≤ b <;> simp [h, h', h'']
theorem l3Kids_is (k : Nat) (n : Int) : spec_l3Kids.f (k + 1) n = some (if kindOk n then kidsN n else -1) := by
 unfold spec_l3Kids.f spec_l3Kids.j0 kindOk kidsN
 by_cases h1 : n = 1
 ·simp [h1]
 ·by_cases h2 : n = 2
  ·simp [h2]
  ·by_cases h10 : n = 10
   ·simp [h10]
   ·by_cases h3 : 3 ≤ n
    ·by_cases h9 : n ≤ 9
     ·have : 1 ≤ n ∧ n ≤ 10 := by omega
      simp [h1, h2, h10, h3, h9, this]
     ·have : ¬ (1 ≤ n ∧ n ≤ 10) := by omega
      simp [h1, h2, h10, h3, h9, this]
    ·have : ¬ (1 ≤ n ∧ n ≤ 10) := by omega
     simp [h1, h2, h10, h3, this]
theorem form_step (k : Nat) (d : Nat) (e : Ex) : spec_l3Form.f (k + 4) e.f0 e.f1 e.f2.f0 e.f2.f1 e.f3 ((d : Int) + 1) =
  if headOk e then spec_l3Form.l0 k ((d : Int) + 1) 0 e.f0 e.f1 e.f2.f0 e.f2.f1 e.f3 else some false := by
 rw [spec_l3Form.f, if_neg (by omega), l3Kids_is (k + 2)]
 simp only [Option.bind_some, spec_l3Form.j0, spec_l3Form.j1, spec_l3Form.j2, numCut_is, addrOk_is]
 unfold headOk shapeL isNumL
 cases hk : kindOk e.f0 with
 | false =>
  have : ((-1 : Int) != (e.f3.length : Int)) = true := by rw [bne_iff_ne]; omega
  simp [this]
 | true =>
  by_cases hl : (e.f3.length : Int) = kidsN e.f0
  ·rw [← hl]
   simp only [if_true, bne_self_eq_false, Bool.false_eq_true, if_false, beq_self_eq_true, Bool.true_and]
   by_cases h1 : e.f0 = 1
   ·have h12 : ¬ (1 : Int) = 2 := by omega
    simp only [h1, if_true, h12, if_false]
    by_cases c1 : e.f1 < -1000000
    ·have q1 : ¬ (-1000000 : Int) = e.f1 := by omega
     have q2 : ¬ (-1000000 ≤ e.f1 ∧ e.f1 ≤ 1000000) := by omega
     simp [c1, q1, q2]
    ·by_cases c2 : 1000000 < e.f1
     ·have q1 : ¬ (1000000 : Int) = e.f1 := by omega
      have q2 : ¬ (-1000000 ≤ e.f1 ∧ e.f1 ≤ 1000000) := by omega
      simp [c1, c2, q1, q2]
     ·have q2 : (-1000000 ≤ e.f1 ∧ e.f1 ≤ 1000000) := by omega
      by_cases z1 : e.f2.f0 = 0 <;> by_cases z2 : e.f2.f1 = 0 <;> simp [c1, c2, q2, z1, z2]
   ·by_cases h2 : e.f0 = 2
    ·have h12 : ¬ (2 : Int) = 1 := by omega
     simp only [h2, if_true, h12, if_false]
     by_cases z1 : e.f1 = 0 <;> cases z2 : addrOkL e.f2.f0 e.f2.f1 <;> simp [z1]
    ·simp only [h1, h2, if_false]
     by_cases z : e.f1 = 0 <;> by_cases z1 : e.f2.f0 = 0 <;> by_cases z2 : e.f2.f1 = 0 <;> simp [z, z1, z2]
  ·have h1 : (kidsN e.f0 != (e.f3.length : Int)) = true := by rw [bne_iff_ne]; exact fun h => hl h.symm
   have h2 : ((e.f3.length : Int) == kidsN e.f0) = false := by rw [beq_eq_false_iff_ne]; exact hl
   simp [h1, h2]
theorem mono_f (a b c d : Int) (l : List Ex) (n : Int) : ∀ k, LeO (spec_l3Form.f k a b c d l n) (spec_l3Form.f (k + 1) a b c d l n) := fun k => (spec_l3Form.mono_l k).1 a b c d l n
theorem mono_l0 (x i a b c d : Int) (l : List Ex) : ∀ k, LeO (spec_l3Form.l0 k x i a b c d l) (spec_l3Form.l0 (k + 1) x i a b c d l) := fun k => (spec_l3Form.mono_l k).2.2.2.2 x i a b c d l
theorem form_loop (d : Nat) (hd : d < 100) (a b c c' : Int) (l : List Ex) (hl : l.length < 9223372036854775807) (ih : ∀ x ∈ l, ∃ k, spec_l3Form.f k x.f0 x.f1 x.f2.f0 x.f2.f1 x.f3 d = some (formS d x)) :
  ∀ (n j : Nat), n + j = l.length → ∃ k, spec_l3Form.l0 k ((d : Int) + 1) j a b c c' l = some ((l.drop j).all (formS d)) := by
 intro n
 induction n with
 | zero =>
  intro j hj
  refine ⟨1, ?_⟩
  rw [spec_l3Form.l0, if_neg (by omega), List.drop_eq_nil_of_le (by omega)]; rfl
 | succ n ihn =>
  intro j hj
  have hlt : j < l.length := by omega
  obtain ⟨k1, h1⟩ := ih l[j] (List.getElem_mem hlt)
  obtain ⟨k2, h2⟩ := ihn (j + 1) (by omega)
  refine ⟨k1 + k2 + 1, ?_⟩
  rw [spec_l3Form.l0, if_pos (by omega), if_pos (by omega), rd_get l j hlt, wrap_small (by omega) (by omega), wrap_small (by omega) (by omega), show (d : Int) + 1 - 1 = d by omega, up_le (mono_f _ _ _ _ _ _) (Nat.le_add_right k1 k2) h1, Option.bind_some, List.drop_eq_getElem_cons hlt, List.all_cons]
  cases formS d l[j] with
  | false => simp
  | true => simpa using up_le (mono_l0 _ _ _ _ _ _ _) (Nat.le_add_left k2 k1) h2
/-- The lists within are short enough to be counted. -/
inductive Short : Ex → Prop
 | mk (e : Ex) : e.f3.length < 9223372036854775807 → (∀ x ∈ e.f3, Short x) → Short e
theorem form_spec (d : Nat) : d < 100 → ∀ e : Ex, Short e → ∃ k, spec_l3Form.f k e.f0 e.f1 e.f2.f0 e.f2.f1 e.f3 d = some (formS d e) := by
 induction d with
 | zero => intro _ e _; exact ⟨2, by rw [spec_l3Form.f, if_pos (by omega), spec_l3Form.j0, if_pos rfl]; rfl⟩
 | succ d ih =>
  intro hd e he
  cases he with
  | mk _ hlen hk =>
  obtain ⟨k, h⟩ := form_loop d (by omega) e.f0 e.f1 e.f2.f0 e.f2.f1 e.f3 hlen (fun x hx => ih (by omega) x (hk x hx)) e.f3.length 0 (by omega)
  refine ⟨k + 4, ?_⟩
  have := form_step k d e
  rw [show (((d + 1 : Nat)) : Int) = (d : Int) + 1 by omega, this, formS]
  cases headOk e with
  | false => simp
  | true => simpa using h

theorem mono_m (a b c d : Int) (l : List Ex) (n : Int) : ∀ k, LeO (spec_l3Many.f k a b c d l n) (spec_l3Many.f (k + 1) a b c d l n) := fun k => (spec_l3Many.mono_l k).1 a b c d l n
theorem mono_m0 (x i j a b c d : Int) (l : List Ex) : ∀ k, LeO (spec_l3Many.l0 k x i j a b c d l) (spec_l3Many.l0 (k + 1) x i j a b c d l) := fun k => (spec_l3Many.mono_l k).2 x i j a b c d l
theorem kidsN_le (k : Int) : kidsN k ≤ 2 := by
 unfold kidsN; split
 ·omega
 ·split <;> omega
theorem sum_two (f : Ex → Nat) (b : Nat) (l : List Ex) (h : ∀ x ∈ l, f x ≤ b) : (l.map f).sum ≤ l.length * b := by
 induction l with
 | nil => simp
 | cons x l ih =>
  have h1 := h x (by simp)
  have h2 := ih (fun y hy => h y (by simp [hy]))
  simp [Nat.add_mul]; omega
theorem manyS_le (d : Nat) : ∀ e : Ex, formS d e = true → manyS d e + 1 ≤ 2 ^ d := by
 induction d with
 | zero => intro e h; cases h
 | succ d ih =>
  intro e h
  rw [formS, Bool.and_eq_true] at h
  have hl : e.f3.length ≤ 2 := by
   have h1 := h.1
   unfold headOk at h1
   simp only [Bool.and_eq_true, beq_iff_eq] at h1
   have := kidsN_le e.f0
   omega
  have hs := sum_two (manyS d) (2 ^ d - 1) e.f3 (fun x hx => by have := ih x (List.all_eq_true.1 h.2 x hx); omega)
  have : e.f3.length * (2 ^ d - 1) ≤ 2 * (2 ^ d - 1) := Nat.mul_le_mul_right _ hl
  have hp : 1 ≤ 2 ^ d := Nat.one_le_two_pow
  rw [manyS, Nat.pow_succ]
  omega
theorem many_loop (d : Nat) (hd : d < 40) (a b c c' : Int) (l : List Ex) (hl : l.length < 9223372036854775807) (hb : ∀ x ∈ l, manyS d x ≤ 1099511627776) (ih : ∀ x ∈ l, ∃ k, spec_l3Many.f k x.f0 x.f1 x.f2.f0 x.f2.f1 x.f3 d = some (manyS d x : Int)) :
  ∀ (n j acc : Nat), n + j = l.length → acc + ((l.drop j).map (manyS d)).sum ≤ 4611686018427387904 → ∃ k, spec_l3Many.l0 k ((d : Int) + 1) acc j a b c c' l = some ((acc + ((l.drop j).map (manyS d)).sum : Nat) : Int) := by
 intro n
 induction n with
 | zero =>
  intro j acc hj _
  refine ⟨1, ?_⟩
  rw [spec_l3Many.l0, if_neg (by omega), List.drop_eq_nil_of_le (by omega)]; simp
 | succ n ihn =>
  intro j acc hj hacc
  have hlt : j < l.length := by omega
  obtain ⟨k1, h1⟩ := ih l[j] (List.getElem_mem hlt)
  rw [List.drop_eq_getElem_cons hlt, List.map_cons, List.sum_cons, ← Nat.add_assoc] at hacc
  obtain ⟨k2, h2⟩ := ihn (j + 1) (acc + manyS d l[j]) (by omega) hacc
  refine ⟨k1 + k2 + 1, ?_⟩
  rw [spec_l3Many.l0, if_pos (by omega), if_pos (by omega), if_pos (by omega), rd_get l j hlt, wrap_small (n := (d : Int) + 1 - 1) (by omega) (by omega), wrap_small (n := (j : Int) + 1) (by omega) (by omega), show (d : Int) + 1 - 1 = d by omega, up_le (mono_m _ _ _ _ _ _) (Nat.le_add_right k1 k2) h1, Option.bind_some, List.drop_eq_getElem_cons hlt, List.map_cons, List.sum_cons, ← Nat.add_assoc]
  rw [wrap_small (by omega) (by omega)]
  have := up_le (mono_m0 _ _ _ _ _ _ _ _) (Nat.le_add_left k2 k1) h2
  simpa using this
theorem many_spec (d : Nat) : d < 40 → ∀ e : Ex, Short e → formS d e = true → ∃ k, spec_l3Many.f k e.f0 e.f1 e.f2.f0 e.f2.f1 e.f3 d = some (manyS d e : Int) := by
 induction d with
 | zero => intro _ e _ h; cases h
 | succ d ih =>
  intro hd e he hf
  have hle := manyS_le (d + 1) e hf
  have hpow : 2 ^ (d + 1) ≤ 1099511627776 := Nat.le_trans (Nat.pow_le_pow_right (by omega) (show d + 1 ≤ 40 by omega)) (by decide)
  have hf' := hf
  rw [formS, Bool.and_eq_true] at hf'
  cases he with
  | mk _ hlen hk =>
  have hpow' : 2 ^ d ≤ 1099511627776 := Nat.le_trans (Nat.pow_le_pow_right (by omega) (show d ≤ 40 by omega)) (by decide)
  obtain ⟨k, h⟩ := many_loop d (by omega) e.f0 e.f1 e.f2.f0 e.f2.f1 e.f3 hlen (fun x hx => by have := manyS_le d x (List.all_eq_true.1 hf'.2 x hx); omega) (fun x hx => ih (by omega) x (hk x hx) (List.all_eq_true.1 hf'.2 x hx)) e.f3.length 0 1 (by omega) (by rw [manyS] at hle; simp only [List.drop_zero]; omega)
  refine ⟨k + 1, ?_⟩
  rw [show (((d + 1 : Nat)) : Int) = (d : Int) + 1 by omega, spec_l3Many.f, manyS]
  simpa using h
theorem exprOk_spec (e : Ex) (he : Short e) : ∃ k, spec_ExprOk.f k e.f0 e.f1 e.f2.f0 e.f2.f1 e.f3 = some (formS 6 e && decide (manyS 6 e ≤ 14)) := by
 obtain ⟨k1, h1⟩ := form_spec 6 (by omega) e he
 cases hf : formS 6 e with
 | false =>
  refine ⟨k1, ?_⟩
  rw [hf] at h1
  unfold spec_ExprOk.f
  have h1' : spec_l3Form.f k1 e.f0 e.f1 e.f2.f0 e.f2.f1 e.f3 6 = some false := h1
  rw [h1']; simp
 | true =>
  obtain ⟨k2, h2⟩ := many_spec 6 (by omega) e he hf
  rw [hf] at h1
  have h1' : spec_l3Form.f (k1 + k2) e.f0 e.f1 e.f2.f0 e.f2.f1 e.f3 6 = some true := up_le (mono_f _ _ _ _ _ _) (Nat.le_add_right k1 k2) h1
  have h2' : spec_l3Many.f (k1 + k2) e.f0 e.f1 e.f2.f0 e.f2.f1 e.f3 6 = some (manyS 6 e : Int) := up_le (mono_m _ _ _ _ _ _) (Nat.le_add_left k2 k1) h2
  refine ⟨k1 + k2, ?_⟩
  unfold spec_ExprOk.f
  rw [h1']
  simp only [Option.bind_some, if_true, h2', Bool.true_and]
  by_cases h14 : manyS 6 e ≤ 14
  ·rw [decide_eq_true h14, decide_eq_true (by omega)]
  ·rw [decide_eq_false h14, decide_eq_false (by omega)]
end Go.Proofs.YtfmipdhkiahjoaaDoor.B
/- The draws of numbers, places and expressions end. -/
namespace Go.Proofs.YtfmipdhkiahjoaaDoor.B
open Go.RowKit Go.Proofs.YtfmipdhkiahjoaaDoorW.PrintWords Go.Proofs.YtfmipdhkiahjoaaDoorW.PrintLast Go.Proofs.YtfmipdhkiahjoaaDoorW.PrintMore
set_option linter.unusedVariables false

/-- A tree whose lists are short indeed. -/
inductive Tiny : Ex → Prop
 | mk (e : Ex) : e.f3.length ≤ 1000 → (∀ x ∈ e.f3, Tiny x) → Tiny e
theorem Tiny.short {e : Ex} (h : Tiny e) : Short e := by
 induction h with
 | mk e hl _ ih => exact .mk e (by omega) ih
theorem rd_mem (l : List Int) (i : Int) (h0 : 0 ≤ i) (h1 : i < l.length) : rd l i ∈ l := by
 have : i.toNat < l.length := by omega
 have e : rd l i = l[i.toNat] := by simp [rd, this]
 rw [e]; exact List.getElem_mem this
theorem num_total (s : List Int) (hs : Bytes s) (hl : s.length ≤ 2000) (p : Int) (hp : 0 ≤ p) (hp1 : p < 1099511627776) (l : List Int) (h1 : 1 ≤ l.length) (h2 : l.length < 1000) :
  ∃ x, x ∈ l ∧ ∀ k, spec_l12Rd_num.f (k + 1) s p l = some (x, p + 1) := by
 obtain ⟨r, r0, r1, hr⟩ := pick_total s hs hl p l.length hp hp1 (by omega) (by omega)
 refine ⟨rd l r, rd_mem l r r0 r1, fun k => ?_⟩
 rw [spec_l12Rd_num.f, hr k]
 simp only [Option.bind_some, if_pos r0, if_pos r1]
theorem addr_total (s : List Int) (hs : Bytes s) (hl : s.length ≤ 2000) (p : Int) (hp : 0 ≤ p) (hp1 : p < 1099511627770) :
  ∃ a b : Int, (1 ≤ a ∧ a ≤ 3) ∧ (0 ≤ b ∧ b < 3) ∧ ∀ k, spec_l2Addr.f (k + 1) s p = some (a, b, p + 2) := by
 obtain ⟨r, r0, r1, hr⟩ := pick_total s hs hl p 3 hp (by omega) (by omega) (by omega)
 obtain ⟨q, q0, q1, hq⟩ := pick_total s hs hl (p + 1) 3 (by omega) (by omega) (by omega) (by omega)
 refine ⟨1 + r, q, by omega, by omega, fun k => ?_⟩
 rw [spec_l2Addr.f, hr k]
 simp only [Option.bind_some]
 rw [hq k]
 simp only [Option.bind_some]
 rw [wrap_id (by omega) (by omega), show p + 1 + 1 = p + 2 by omega]
/-- What a draw of an expression leaves. -/
def Drew1 (o : Option (Int × Int × Int × Int × List Ex × Int)) (e : Ex) (p : Int) : Prop := o = some (e.f0, e.f1, e.f2.f0, e.f2.f1, e.f3, p)
theorem leaf_total (s : List Int) (hs : Bytes s) (hl : s.length ≤ 2000) (p : Int) (hp : 0 ≤ p) (hp1 : p < 1099511627000) (a1 : Int) :
  ∃ (e : Ex) (p' : Int), Tiny e ∧ p ≤ p' ∧ p' ≤ p + 3 ∧ ∀ k, Drew1 (spec_l3Expr.j0 (k + 2) a1 true s p) e p' := by
 obtain ⟨r, r0, r1, hr⟩ := pick_total s hs hl p 3 hp (by omega) (by omega) (by omega)
 by_cases hz : r = 0
 ·obtain ⟨x, hx, hn⟩ := num_total s hs hl (p + 1) (by omega) (by omega) [0, 1, 2, 3, (-1), 5, 1000000] (by simp) (by simp)
  refine ⟨⟨1, x, ⟨0, 0⟩, []⟩, p + 1 + 1, .mk _ (by simp) (by simp), by omega, by omega, fun k => ?_⟩
  unfold Drew1
  rw [spec_l3Expr.j0, if_pos rfl, hr k]
  simp only [Option.bind_some, if_pos hz]
  rw [hn k]; rfl
 ·obtain ⟨a, b, ha, hb, hq⟩ := addr_total s hs hl (p + 1) (by omega) (by omega)
  refine ⟨⟨2, 0, ⟨a, b⟩, []⟩, p + 1 + 2, .mk _ (by simp) (by simp), by omega, by omega, fun k => ?_⟩
  unfold Drew1
  rw [spec_l3Expr.j0, if_pos rfl, hr k]
  simp only [Option.bind_some, if_neg hz]
  rw [hq k]; rfl
theorem mono_ef (s : List Int) (p a : Int) : ∀ k, LeO (spec_l3Expr.f k s p a) (spec_l3Expr.f (k + 1) s p a) := fun k => (spec_l3Expr.mono_l k).1 s p a
theorem mono_el (x n : Int) (s : List Int) (p a b c d : Int) (l : List Ex) : ∀ k, LeO (spec_l3Expr.l0 k x n s p a b c d l) (spec_l3Expr.l0 (k + 1) x n s p a b c d l) := fun k => (spec_l3Expr.mono_l k).2.2 x n s p a b c d l
def bnd : Nat → Int
 | 0 => 10
 | d + 1 => 10 + 2 * bnd d
theorem kids_total (s : List Int) (d : Nat) (kd : Int) (B : Int) (hB : 0 ≤ B) (ih : ∀ p : Int, 0 ≤ p → p + B < 1099510000000 → ∃ (e : Ex) (p' : Int) (k : Nat), Tiny e ∧ p ≤ p' ∧ p' ≤ p + B ∧ Drew1 (spec_l3Expr.f k s p d) e p') (hd : d < 1000) :
  ∀ (n : Nat) (p : Int) (acc : List Ex), 0 ≤ p → p + n * B < 1099510000000 → acc.length + n ≤ 2 → (∀ x ∈ acc, Tiny x) →
   ∃ (l : List Ex) (p' : Int) (k : Nat), l.length = acc.length + n ∧ (∀ x ∈ l, Tiny x) ∧ p ≤ p' ∧ p' ≤ p + n * B ∧ spec_l3Expr.l0 k ((d : Int) + 1) n s p kd 0 0 0 acc = some (kd, 0, 0, 0, l, p') := by
 intro n
 induction n with
 | zero =>
  intro p acc hp hpb ha hacc
  exact ⟨acc, p, 1, by omega, hacc, by omega, by omega, by rw [spec_l3Expr.l0, if_neg (by omega)]⟩
 | succ n ihn =>
  intro p acc hp hpb ha hacc
  have e1 : ((n + 1 : Nat) : Int) * B = n * B + B := by rw [Int.natCast_add, Int.add_mul]; simp
  have nb : 0 ≤ (n : Int) * B := Int.mul_nonneg (by omega) hB
  rw [e1] at hpb
  obtain ⟨e, p1, k1, he, q1, q2, hk1⟩ := ih p hp (by omega)
  obtain ⟨l, p2, k2, hl1, hl2, q3, q4, hk2⟩ := ihn p1 (acc ++ [e]) (by omega) (by omega) (by simp; omega) (by intro x hx; rcases List.mem_append.1 hx with hx | hx; exact hacc x hx; simp at hx; rw [hx]; exact he)
  refine ⟨l, p2, k1 + k2 + 1, by rw [hl1]; simp; omega, hl2, by omega, by rw [e1]; omega, ?_⟩
  unfold Drew1 at hk1
  rw [spec_l3Expr.l0, if_pos (by omega), show (d : Int) + 1 - 1 = d by omega, wrap_id (n := (d : Int)) (by omega) (by omega), up_le (mono_ef _ _ _) (Nat.le_add_right k1 k2) hk1]
  simp only [Option.bind_some]
  rw [if_pos (by omega), show (((n + 1 : Nat) : Int) - 1) = (n : Int) by omega, wrap_id (n := (n : Int)) (by omega) (by omega)]
  have eta : (⟨e.f0, e.f1, ⟨e.f2.f0, e.f2.f1⟩, e.f3⟩ : Ex) = e := by cases e with | mk a b c l => cases c; rfl
  rw [eta]
  exact up_le (mono_el _ _ _ _ _ _ _ _ _) (Nat.le_add_left k2 k1) hk2
theorem bnd_pos (d : Nat) : 10 ≤ bnd d := by
 induction d with
 | zero => simp [bnd]
 | succ d ih => simp [bnd]; omega
theorem bnd_le (d : Nat) : d ≤ 10 → bnd d ≤ 100000 := by
 intro h
 have : d = 0 ∨ d = 1 ∨ d = 2 ∨ d = 3 ∨ d = 4 ∨ d = 5 ∨ d = 6 ∨ d = 7 ∨ d = 8 ∨ d = 9 ∨ d = 10 := by omega
 rcases this with rfl | rfl | rfl | rfl | rfl | rfl | rfl | rfl | rfl | rfl | rfl <;> decide
theorem expr_total (s : List Int) (hs : Bytes s) (hl : s.length ≤ 2000) (d : Nat) : d ≤ 10 → ∀ p : Int, 0 ≤ p → p + bnd d < 1099510000000 → ∃ (e : Ex) (p' : Int) (k : Nat), Tiny e ∧ p ≤ p' ∧ p' ≤ p + bnd d ∧ Drew1 (spec_l3Expr.f k s p d) e p' := by
 induction d with
 | zero =>
  intro _ p hp hp1
  have h10 := bnd_pos 0
  obtain ⟨e, p', he, q1, q2, h⟩ := leaf_total s hs hl p hp (by omega) 0
  refine ⟨e, p', 3, he, q1, by simp only [bnd]; omega, ?_⟩
  have := h 0
  unfold Drew1 at this ⊢
  rw [spec_l3Expr.f, if_pos (by omega)]
  exact this
 | succ d ih =>
  intro hd p hp hp1
  have hb := bnd_pos d
  have hb2 := bnd_le d (by omega)
  have hbd : bnd (d + 1) = 10 + 2 * bnd d := rfl
  by_cases h0 : d = 0
  ·subst h0
   obtain ⟨e, p', he, q1, q2, h⟩ := leaf_total s hs hl p hp (by omega) 1
   refine ⟨e, p', 3, he, q1, by omega, ?_⟩
   have := h 0
   unfold Drew1 at this ⊢
   rw [spec_l3Expr.f, if_pos (by omega)]
   exact this
  ·obtain ⟨r, r0, r1, hr⟩ := pick_total s hs hl p 4 hp (by omega) (by omega) (by omega)
   by_cases hz : r = 0
   ·obtain ⟨e, p', he, q1, q2, h⟩ := leaf_total s hs hl (p + 1) (by omega) (by omega) ((d + 1 : Nat) : Int)
    refine ⟨e, p', 3, he, by omega, by omega, ?_⟩
    have := h 0
    unfold Drew1 at this ⊢
    rw [spec_l3Expr.f, if_neg (by omega), hr 1]
    simp only [Option.bind_some, hz]
    exact this
   ·obtain ⟨x, hx, hn⟩ := num_total s hs hl (p + 1) (by omega) (by omega) [3, 3, 4, 5, 6, 6, 7, 8, 9, 10] (by simp) (by simp)
    have hx' : 3 ≤ x ∧ x ≤ 10 := by
     simp only [List.mem_cons, List.mem_nil_iff, or_false] at hx
     omega
    have hk2 : kidsN x = 1 ∨ kidsN x = 2 := by
     unfold kidsN
     rw [if_neg (by omega)]
     split
     ·exact .inr rfl
     ·exact .inl rfl
    obtain ⟨n, hn2, hnk⟩ : ∃ n : Nat, n ≤ 2 ∧ kidsN x = (n : Int) := by
     rcases hk2 with h | h
     ·exact ⟨1, by omega, by rw [h]; rfl⟩
     ·exact ⟨2, by omega, by rw [h]; rfl⟩
    have hmul : (n : Int) * bnd d ≤ 2 * bnd d := Int.mul_le_mul_of_nonneg_right (by omega) (by omega)
    obtain ⟨l, p', k, hl1, hl2, q1, q2, h⟩ := kids_total s d x (bnd d) (by omega) (fun q hq0 hq1 => ih (by omega) q hq0 hq1) (by omega) n (p + 2) [] (by omega) (by omega) (by simpa using hn2) (by simp)
    simp only [List.length_nil, Nat.zero_add] at hl1
    refine ⟨⟨x, 0, ⟨0, 0⟩, l⟩, p', k + 4, .mk _ (by show l.length ≤ _; omega) hl2, by omega, by omega, ?_⟩
    unfold Drew1
    have hz' : (r == 0) = false := beq_false_of_ne hz
    have hko : kindOk x = true := by unfold kindOk; exact decide_eq_true (by omega)
    rw [spec_l3Expr.f, if_neg (by omega), hr (k + 2)]
    simp only [Option.bind_some, hz']
    rw [spec_l3Expr.j0, if_neg (by decide), hn (k + 1)]
    simp only [Option.bind_some]
    rw [l3Kids_is (k + 1), hko, if_pos rfl, hnk]
    simp only [Option.bind_some]
    rw [show p + 1 + 1 = p + 2 by omega, show ((d + 1 : Nat) : Int) = (d : Int) + 1 by omega]
    exact up_le (mono_el _ _ _ _ _ _ _ _ _) (by omega) h
end Go.Proofs.YtfmipdhkiahjoaaDoor.B
/- The draws of what is ok, and the copies, end. -/
namespace Go.Proofs.YtfmipdhkiahjoaaDoor.B
open Go.RowKit Go.Proofs.YtfmipdhkiahjoaaDoorW.PrintWords Go.Proofs.YtfmipdhkiahjoaaDoorW.PrintLast Go.Proofs.YtfmipdhkiahjoaaDoorW.PrintMore
set_option linter.unusedVariables false

theorem some_total (s : List Int) (hs : Bytes s) (hl : s.length ≤ 2000) (p : Int) (hp : 0 ≤ p) (hp1 : p < 1099500000000) :
  ∃ (e : Ex) (p' : Int) (k : Nat), Tiny e ∧ p ≤ p' ∧ p' ≤ p + 200002 ∧ Drew1 (spec_l3Some.f k s p) e p' := by
 obtain ⟨r, r0, r1, hr⟩ := pick_total s hs hl p 4 hp (by omega) (by omega) (by omega)
 obtain ⟨d, hd⟩ := Int.eq_ofNat_of_zero_le r0
 have hd4 : d < 4 := by omega
 have b1 := bnd_le (d + 1) (by omega)
 have b2 := bnd_le 2 (by omega)
 have b3 := bnd_pos (d + 1)
 have b4 := bnd_pos 2
 obtain ⟨e, p1, k1, he, q1, q2, h1⟩ := expr_total s hs hl (d + 1) (by omega) (p + 1) (by omega) (by omega)
 obtain ⟨k2, h2⟩ := exprOk_spec e he.short
 obtain ⟨e', p2, k3, he', q3, q4, h3⟩ := expr_total s hs hl 2 (by omega) p1 (by omega) (by omega)
 unfold Drew1 at h1 h3
 have m1 : spec_l3Expr.f (k1 + k2 + k3 + 1) s (p + 1) ((d + 1 : Nat) : Int) = _ := up_le (mono_ef _ _ _) (by omega) h1
 have m2 : spec_ExprOk.f (k1 + k2 + k3 + 1) e.f0 e.f1 e.f2.f0 e.f2.f1 e.f3 = _ := up_le (f := fun k => spec_ExprOk.f k e.f0 e.f1 e.f2.f0 e.f2.f1 e.f3) (fun k => spec_ExprOk.mono _ _ _ _ _ k) (show k2 ≤ k1 + k2 + k3 + 1 by omega) h2
 have m3 : spec_l3Expr.f (k1 + k2 + k3 + 1) s p1 2 = _ := up_le (mono_ef _ _ _) (by omega) h3
 have e1 : wrap64 (1 + r) = ((d + 1 : Nat) : Int) := by rw [wrap_id (by omega) (by omega)]; omega
 cases hv : (formS 6 e && decide (manyS 6 e ≤ 14)) with
 | true =>
  refine ⟨e, p1, k1 + k2 + k3 + 1, he, by omega, by omega, ?_⟩
  unfold Drew1
  rw [spec_l3Some.f, hr (k1 + k2 + k3)]
  simp only [Option.bind_some]
  rw [e1, m1]
  simp only [Option.bind_some]
  rw [m2, hv]
  simp
 | false =>
  refine ⟨e', p2, k1 + k2 + k3 + 1, he', by omega, by omega, ?_⟩
  unfold Drew1
  rw [spec_l3Some.f, hr (k1 + k2 + k3)]
  simp only [Option.bind_some]
  rw [e1, m1]
  simp only [Option.bind_some]
  rw [m2, hv]
  simp only [Option.bind_some, Bool.false_eq_true, if_false]
  rw [m3]
  simp

theorem addrBent_total (s : List Int) (hs : Bytes s) (hl : s.length ≤ 2000) (p : Int) (hp : 0 ≤ p) (hp1 : p < 1099500000000) :
  ∃ (a b p' : Int), p ≤ p' ∧ p' ≤ p + 4 ∧ ∀ k, spec_l2AddrBent.f (k + 1) s p = some (a, b, p') := by
 obtain ⟨a, b, ha, hb, hq⟩ := addr_total s hs hl p hp (by omega)
 obtain ⟨r, r0, r1, hr⟩ := pick_total s hs hl (p + 2) 16 (by omega) (by omega) (by omega) (by omega)
 obtain ⟨x, hx, hn⟩ := num_total s hs hl (p + 2 + 1) (by omega) (by omega) [0, 4, (-1)] (by simp) (by simp)
 obtain ⟨y, hy, hm⟩ := num_total s hs hl (p + 2 + 1) (by omega) (by omega) [(-1), 6, 5] (by simp) (by simp)
 by_cases h0 : r = 0
 ·refine ⟨x, b, p + 2 + 1 + 1, by omega, by omega, fun k => ?_⟩
  rw [spec_l2AddrBent.f, hq k]
  simp only [Option.bind_some]
  rw [hr k]
  simp only [Option.bind_some, if_pos h0]
  rw [hn k]; rfl
 ·by_cases h1 : r = 1
  ·refine ⟨a, y, p + 2 + 1 + 1, by omega, by omega, fun k => ?_⟩
   rw [spec_l2AddrBent.f, hq k]
   simp only [Option.bind_some]
   rw [hr k]
   simp only [Option.bind_some, if_neg h0, if_pos h1]
   rw [hm k]; rfl
  ·refine ⟨a, b, p + 2 + 1, by omega, by omega, fun k => ?_⟩
   rw [spec_l2AddrBent.f, hq k]
   simp only [Option.bind_some]
   rw [hr k]
   simp only [Option.bind_some, if_neg h0, if_neg h1]
theorem mono_cf (a b c d : Int) (l : List Ex) : ∀ k, LeO (spec_l3Copy.f k a b c d l) (spec_l3Copy.f (k + 1) a b c d l) := fun k => (spec_l3Copy.mono_l k).1 a b c d l
theorem mono_cl (x a b c d : Int) (l : List Ex) (a' b' c' d' : Int) (l' : List Ex) : ∀ k, LeO (spec_l3Copy.l0 k x a b c d l a' b' c' d' l') (spec_l3Copy.l0 (k + 1) x a b c d l a' b' c' d' l') := fun k => (spec_l3Copy.mono_l k).2 x a b c d l a' b' c' d' l'
theorem copy_total (e : Ex) (he : Tiny e) : ∃ k, spec_l3Copy.f k e.f0 e.f1 e.f2.f0 e.f2.f1 e.f3 = some (e.f0, e.f1, e.f2.f0, e.f2.f1, e.f3) := by
 induction he with
 | mk e hl hk ih =>
  have loop : ∀ (n j : Nat), n + j = e.f3.length → ∃ k, spec_l3Copy.l0 k j e.f0 e.f1 e.f2.f0 e.f2.f1 e.f3 e.f0 e.f1 e.f2.f0 e.f2.f1 (e.f3.take j) = some (e.f0, e.f1, e.f2.f0, e.f2.f1, e.f3) := by
   intro n
   induction n with
   | zero => intro j hj; exact ⟨1, by rw [spec_l3Copy.l0, if_neg (by omega), List.take_of_length_le (by omega)]⟩
   | succ n ihn =>
    intro j hj
    have hlt : j < e.f3.length := by omega
    obtain ⟨k1, h1⟩ := ih e.f3[j] (List.getElem_mem hlt)
    obtain ⟨k2, h2⟩ := ihn (j + 1) (by omega)
    refine ⟨k1 + k2 + 1, ?_⟩
    have eta : (⟨e.f3[j].f0, e.f3[j].f1, ⟨e.f3[j].f2.f0, e.f3[j].f2.f1⟩, e.f3[j].f3⟩ : Ex) = e.f3[j] := by cases e.f3[j] with | mk a b c l => cases c; rfl
    rw [spec_l3Copy.l0, if_pos (by omega), if_pos (by omega), rd_get e.f3 j hlt, up_le (mono_cf _ _ _ _ _) (Nat.le_add_right k1 k2) h1]
    simp only [Option.bind_some]
    rw [if_pos (by simp; omega), wrap_id (by omega) (by omega), eta, ← List.take_succ_eq_append_getElem hlt]
    exact up_le (mono_cl _ _ _ _ _ _ _ _ _ _ _) (Nat.le_add_left k2 k1) h2
  obtain ⟨k, h⟩ := loop e.f3.length 0 (by omega)
  exact ⟨k + 1, by rw [spec_l3Copy.f]; simpa using h⟩
end Go.Proofs.YtfmipdhkiahjoaaDoor.B
/- impl.ExprOk, in the print's form. -/
namespace Go.Proofs.YtfmipdhkiahjoaaDoor.B
open Go.RowKit Go.Proofs.YtfmipdhkiahjoaaDoorW.PrintWords Go.Proofs.YtfmipdhkiahjoaaDoorW.PrintLast Go.Proofs.YtfmipdhkiahjoaaDoorW.PrintMore
set_option linter.unusedVariables false

end Go.Proofs.YtfmipdhkiahjoaaDoor.B
/- Trees as values that are only read (seats without memories). -/
namespace Go.Proofs.YtfmipdhkiahjoaaDoor.B
open Go Go.RowKit Go.Shelf Go.Proofs.YtfmipdhkiahjoaaDoorW.PrintWords Go.Proofs.YtfmipdhkiahjoaaDoorW.PrintLast Go.Proofs.YtfmipdhkiahjoaaDoorW.PrintMore
set_option linter.unusedVariables false
section
variable {ops : Array Oper} {rest : List Oper} {o : Oper} {a : Act} {Q : Exit → Act → World → Prop} {W : World}
end
structure TVo (W : World) (ok : Nat → Prop) (x : Ex) (A : Option Addr) (c : Nat) : Prop where
 v : Kd.V k34 34 W 0 ok (.slice A x.f3.length c) x.f3
abbrev TV (W : World) (x : Ex) (A : Option Addr) (c : Nat) : Prop := TVo W (fun _ => True) x A c
theorem TV.ofN {W : World} {x : Ex} {B : Option Addr} {d base : Nat} {ok ok' : Nat → Prop} (h : Kd.N k34 34 W base ok (.slice B x.f3.length d) x.f3) (hok : ∀ k, ok k → ok' k) : TVo W ok' x B d := ⟨Kd.V_mono (Kd.N_V (base' := 0) h) hok⟩
theorem TVo.reads {W : World} {ok : Nat → Prop} {x : Ex} {A : Option Addr} {c : Nat} (h : TVo W ok x A c) : x.f3.length ≤ c ∧ Kd.C k34 W A x.f3.length x.f3 := (Kd.V_reads' h.v).2
def aggOf : Value → Array Value
 | .agg c => c
 | _ => #[]
section
variable {P : Program} {ops : Array Oper} {o : Oper} {b : Act} {W : World} {Ψ : Value → World → Prop}
/-- A box is written whole: one operation. -/
theorem stepPutB {T : TypeId} {p : Tmp} {x : Operand} (hw : Region.wanted o (yielded ops b.tmps) = true) (ho : o.op = .store T (.tmp p) x) {g : Nat} {cs : Array Value} (hp : b.eval (.tmp p) = .pointer (some ⟨g, 0, none⟩)) (cs' : Array Value) (hx : b.eval x = .agg cs')
  (hb : Box W g T cs) (hs : cs'.size = cs.size) (hi : (P.info? T).map (·.size) = some cs'.size) (h1 : cs'.all (·.oneCell') = true) (h : ∀ W', Box W' g T cs' → Put1 g W W' → Ψ undef W') : StepOK P ops o b W Ψ := by
 have hrun : (execOp b.eval o).run P W = .ok .skip (W.setCells g 0 cs'.toList) := by
  unfold execOp
  simp only [ho, hp, hx, Instr.storeAt, Instr.sureAddr, Sem.run_bind, Sem.run_pure, Result.andThen_ok, run_storeVar_mid W g 0 T cs' (by rw [hs]; exact Box.there hb) hi h1]
 intro K Q hK
 rw [if_pos hw]
 unfold Oper.wp
 rw [hrun]
 exact hK undef _ (h _ (setCells_box hb hs) (setCells_put1 g _ 0 W))
end
end Go.Proofs.YtfmipdhkiahjoaaDoor.B
/- What impl.ExprOk's callers ask of it. -/
namespace Go.Proofs.YtfmipdhkiahjoaaDoor.B
open Go.RowKit Go.Proofs.YtfmipdhkiahjoaaDoorW.PrintWords Go.Proofs.YtfmipdhkiahjoaaDoorW.PrintLast Go.Proofs.YtfmipdhkiahjoaaDoorW.PrintMore
set_option linter.unusedVariables false

def OkCon : Prop := ∀ (e : Ex) (A : Option Addr) (c : Nat) (w : World), Kd.C exK w A e.f3.length e.f3 → e.f3.length ≤ c →
 Calls Tryd.prog 29 #[.agg #[.int .i64 e.f0, .int .i64 e.f1, .int .i64 e.f2.f0, .int .i64 e.f2.f1, .slice A e.f3.length c]] w fun en w' => en = .returned (.bool (okL 0 (partsL e))) ∧ Below w.heap.size w w'
end Go.Proofs.YtfmipdhkiahjoaaDoor.B
