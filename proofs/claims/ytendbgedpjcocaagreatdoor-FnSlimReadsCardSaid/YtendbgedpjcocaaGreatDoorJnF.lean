import Derived.Test.YtendbgedpjcocaaGreatDoorPkB
import Derived.Test.YtendbgedpjcocaaGreatDoorB0
import Derived.Outline
import Derived.Test.YtendbgedpjcocaaGreatDoorJnH
import Derived.StillTailTactics
/- Plain law: the specification's own reckoning of ExprOk ends, and says so. -/
namespace Go.Proofs.YtendbgedpjcocaaGreatDoor.B
open Go.RowKit Go.Proofs.YtendbgedpjcocaaGreatDoorW.PrintWords Go.Proofs.YtendbgedpjcocaaGreatDoorW.PrintLast Go.Proofs.YtendbgedpjcocaaGreatDoorW.PrintMore
set_option linter.unusedVariables false

theorem up_le {α : Type} {f : Nat → Option α} (h : ∀ k, LeO (f k) (f (k + 1))) {k k' : Nat} (hk : k ≤ k') {r : α} (hr : f k = some r) : f k' = some r := by
 induction hk with
 | refl => exact hr
 | step _ ih => exact h _ _ ih
theorem rd_get (l : List Ex) (j : Nat) (h : j < l.length) : rd_T27 l (j : Int) = l[j] := by simp [rd_T27, h]
theorem wrap_small {n : Int} (h0 : -9223372036854775808 ≤ n) (h1 : n ≤ 9223372036854775807) : wrap64 n = n := by
 unfold wrap64
 omega
theorem numCut_is (n : Int) : spec_NumCut.f n = some (if n < -1000000 then -1000000 else if 1000000 < n then 1000000 else n) := by
 unfold spec_NumCut.f spec_l1Min.f spec_l1Max.f
 by_cases h1 : n < -1000000
 ·have : ¬ (1000000 : Int) < n := by omega
  simp [h1, this]
 ·by_cases h2 : (1000000 : Int) < n
  ·simp [h1, h2]
  ·have h3 : n > -1000000 ∨ n = -1000000 := by omega
   rcases h3 with h3 | h3
   ·simp [h1, h2]
   ·subst h3; simp
theorem addrOk_is (a b : Int) : spec_AddrOk.f a b = some (addrOkL a b) := by
 unfold spec_AddrOk.f addrOkL
 by_cases h : 1 ≤ a <;> by_cases h' : a ≤ 3 <;> by_cases h'' : 0 ≤ b <;> simp [h, h', h'']
theorem l3Kids_is (k : Nat) (n : Int) : spec_l3Kids.f (k + 1) n = some (if kindOk n then kidsN n else -1) := by
 unfold spec_l3Kids.f spec_l3Kids.j0 kindOk kidsN
 by_cases h1 : n = 1
 ·simp [h1]
 ·by_cases h2 : n = 2
  ·simp [h2]
  ·by_cases h10 : n = 10
   ·simp [h10]
   ·by_cases h3 : 3 ≤ n
    ·by_cases h9 : n ≤ 9
     ·have : 1 ≤ n ∧ n ≤ 10 := by omega
      simp [h1, h2, h10, h3, h9, this]
     ·have : ¬ (1 ≤ n ∧ n ≤ 10) := by omega
      simp [h1, h2, h10, h3, h9, this]
    ·have : ¬ (1 ≤ n ∧ n ≤ 10) := by omega
     simp [h1, h2, h10, h3, this]
theorem form_step (k : Nat) (d : Nat) (e : Ex) : spec_l3Form.f (k + 4) e.f0 e.f1 e.f2.f0 e.f2.f1 e.f3 ((d : Int) + 1) =
  if headOk e then spec_l3Form.l0 k ((d : Int) + 1) 0 e.f0 e.f1 e.f2.f0 e.f2.f1 e.f3 else some false := by
 rw [spec_l3Form.f, if_neg (by omega), l3Kids_is (k + 2)]
 simp only [Option.bind_some, spec_l3Form.j0, spec_l3Form.j1, spec_l3Form.j2, numCut_is, addrOk_is]
 unfold headOk shapeL isNumL
 cases hk : kindOk e.f0 with
 | false =>
  have : ((-1 : Int) != (e.f3.length : Int)) = true := by rw [bne_iff_ne]; omega
  simp [this]
 | true =>
  by_cases hl : (e.f3.length : Int) = kidsN e.f0
  ·rw [← hl]
   simp only [if_true, bne_self_eq_false, Bool.false_eq_true, if_false, beq_self_eq_true, Bool.true_and]
   by_cases h1 : e.f0 = 1
   ·have h12 : ¬ (1 : Int) = 2 := by omega
    simp only [h1, if_true, h12, if_false]
    by_cases c1 : e.f1 < -1000000
    ·have q1 : ¬ (-1000000 : Int) = e.f1 := by omega
     have q2 : ¬ (-1000000 ≤ e.f1 ∧ e.f1 ≤ 1000000) := by omega
     simp [c1, q1, q2]
    ·by_cases c2 : 1000000 < e.f1
     ·have q1 : ¬ (1000000 : Int) = e.f1 := by omega
      have q2 : ¬ (-1000000 ≤ e.f1 ∧ e.f1 ≤ 1000000) := by omega
      simp [c1, c2, q1, q2]
     ·have q2 : (-1000000 ≤ e.f1 ∧ e.f1 ≤ 1000000) := by omega
      by_cases z1 : e.f2.f0 = 0 <;> by_cases z2 : e.f2.f1 = 0 <;> simp [c1, c2, q2, z1, z2]
   ·by_cases h2 : e.f0 = 2
    ·have h12 : ¬ (2 : Int) = 1 := by omega
     simp only [h2, if_true, h12, if_false]
     by_cases z1 : e.f1 = 0 <;> cases z2 : addrOkL e.f2.f0 e.f2.f1 <;> simp [z1]
    ·simp only [h1, h2, if_false]
     by_cases z : e.f1 = 0 <;> by_cases z1 : e.f2.f0 = 0 <;> by_cases z2 : e.f2.f1 = 0 <;> simp [z, z1, z2]
  ·have h1 : (kidsN e.f0 != (e.f3.length : Int)) = true := by rw [bne_iff_ne]; exact fun h => hl h.symm
   have h2 : ((e.f3.length : Int) == kidsN e.f0) = false := by rw [beq_eq_false_iff_ne]; exact hl
   simp [h1, h2]
theorem mono_f (a b c d : Int) (l : List Ex) (n : Int) : ∀ k, LeO (spec_l3Form.f k a b c d l n) (spec_l3Form.f (k + 1) a b c d l n) := fun k => (spec_l3Form.mono_l k).1 a b c d l n
theorem mono_l0 (x i a b c d : Int) (l : List Ex) : ∀ k, LeO (spec_l3Form.l0 k x i a b c d l) (spec_l3Form.l0 (k + 1) x i a b c d l) := fun k => (spec_l3Form.mono_l k).2.2.2.2 x i a b c d l
theorem form_loop (d : Nat) (hd : d < 100) (a b c c' : Int) (l : List Ex) (hl : l.length < 9223372036854775807) (ih : ∀ x ∈ l, ∃ k, spec_l3Form.f k x.f0 x.f1 x.f2.f0 x.f2.f1 x.f3 d = some (formS d x)) :
  ∀ (n j : Nat), n + j = l.length → ∃ k, spec_l3Form.l0 k ((d : Int) + 1) j a b c c' l = some ((l.drop j).all (formS d)) := by
 intro n
 induction n with
 | zero =>
  intro j hj
  refine ⟨1, ?_⟩
  rw [spec_l3Form.l0, if_neg (by omega), List.drop_eq_nil_of_le (by omega)]; rfl
 | succ n ihn =>
  intro j hj
  have hlt : j < l.length := by omega
  obtain ⟨k1, h1⟩ := ih l[j] (List.getElem_mem hlt)
  obtain ⟨k2, h2⟩ := ihn (j + 1) (by omega)
  refine ⟨k1 + k2 + 1, ?_⟩
  rw [spec_l3Form.l0, if_pos (by omega), if_pos (by omega), rd_get l j hlt, wrap_small (by omega) (by omega), wrap_small (by omega) (by omega), show (d : Int) + 1 - 1 = d by omega, up_le (mono_f _ _ _ _ _ _) (Nat.le_add_right k1 k2) h1, Option.bind_some, List.drop_eq_getElem_cons hlt, List.all_cons]
  cases formS d l[j] with
  | false => simp
  | true => simpa using up_le (mono_l0 _ _ _ _ _ _ _) (Nat.le_add_left k2 k1) h2
/-- The lists within are short enough to be counted. -/
inductive Short : Ex → Prop
 | mk (e : Ex) : e.f3.length < 9223372036854775807 → (∀ x ∈ e.f3, Short x) → Short e
theorem form_spec (d : Nat) : d < 100 → ∀ e : Ex, Short e → ∃ k, spec_l3Form.f k e.f0 e.f1 e.f2.f0 e.f2.f1 e.f3 d = some (formS d e) := by
 induction d with
 | zero => intro _ e _; exact ⟨2, by rw [spec_l3Form.f, if_pos (by omega), spec_l3Form.j0, if_pos rfl]; rfl⟩
 | succ d ih =>
  intro hd e he
  cases he with
  | mk _ hlen hk =>
  obtain ⟨k, h⟩ := form_loop d (by omega) e.f0 e.f1 e.f2.f0 e.f2.f1 e.f3 hlen (fun x hx => ih (by omega) x (hk x hx)) e.f3.length 0 (by omega)
  refine ⟨k + 4, ?_⟩
  have := form_step k d e
  rw [show (((d + 1 : Nat)) : Int) = (d : Int) + 1 by omega, this, formS]
  cases headOk e with
  | false => simp
  | true => simpa using h

theorem mono_m (a b c d : Int) (l : List Ex) (n : Int) : ∀ k, LeO (spec_l3Many.f k a b c d l n) (spec_l3Many.f (k + 1) a b c d l n) := fun k => (spec_l3Many.mono_l k).1 a b c d l n
theorem mono_m0 (x i j a b c d : Int) (l : List Ex) : ∀ k, LeO (spec_l3Many.l0 k x i j a b c d l) (spec_l3Many.l0 (k + 1) x i j a b c d l) := fun k => (spec_l3Many.mono_l k).2 x i j a b c d l
theorem kidsN_le (k : Int) : kidsN k ≤ 2 := by
 unfold kidsN; split
 ·omega
 ·split <;> omega
theorem sum_two (f : Ex → Nat) (b : Nat) (l : List Ex) (h : ∀ x ∈ l, f x ≤ b) : (l.map f).sum ≤ l.length * b := by
 induction l with
 | nil => simp
 | cons x l ih =>
  have h1 := h x (by simp)
  have h2 := ih (fun y hy => h y (by simp [hy]))
  simp [Nat.add_mul]; omega
theorem manyS_le (d : Nat) : ∀ e : Ex, formS d e = true → manyS d e + 1 ≤ 2 ^ d := by
 induction d with
 | zero => intro e h; cases h
 | succ d ih =>
  intro e h
  rw [formS, Bool.and_eq_true] at h
  have hl : e.f3.length ≤ 2 := by
   have h1 := h.1
   unfold headOk at h1
   simp only [Bool.and_eq_true, beq_iff_eq] at h1
   have := kidsN_le e.f0
   omega
  have hs := sum_two (manyS d) (2 ^ d - 1) e.f3 (fun x hx => by have := ih x (List.all_eq_true.1 h.2 x hx); omega)
  have : e.f3.length * (2 ^ d - 1) ≤ 2 * (2 ^ d - 1) := Nat.mul_le_mul_right _ hl
  have hp : 1 ≤ 2 ^ d := Nat.one_le_two_pow
  rw [manyS, Nat.pow_succ]
  omega
theorem many_loop (d : Nat) (hd : d < 40) (a b c c' : Int) (l : List Ex) (hl : l.length < 9223372036854775807) (hb : ∀ x ∈ l, manyS d x ≤ 1099511627776) (ih : ∀ x ∈ l, ∃ k, spec_l3Many.f k x.f0 x.f1 x.f2.f0 x.f2.f1 x.f3 d = some (manyS d x : Int)) :
  ∀ (n j acc : Nat), n + j = l.length → acc + ((l.drop j).map (manyS d)).sum ≤ 4611686018427387904 → ∃ k, spec_l3Many.l0 k ((d : Int) + 1) acc j a b c c' l = some ((acc + ((l.drop j).map (manyS d)).sum : Nat) : Int) := by
 intro n
 induction n with
 | zero =>
  intro j acc hj _
  refine ⟨1, ?_⟩
  rw [spec_l3Many.l0, if_neg (by omega), List.drop_eq_nil_of_le (by omega)]; simp
 | succ n ihn =>
  intro j acc hj hacc
  have hlt : j < l.length := by omega
  obtain ⟨k1, h1⟩ := ih l[j] (List.getElem_mem hlt)
  rw [List.drop_eq_getElem_cons hlt, List.map_cons, List.sum_cons, ← Nat.add_assoc] at hacc
  obtain ⟨k2, h2⟩ := ihn (j + 1) (acc + manyS d l[j]) (by omega) hacc
  refine ⟨k1 + k2 + 1, ?_⟩
  rw [spec_l3Many.l0, if_pos (by omega), if_pos (by omega), if_pos (by omega), rd_get l j hlt, wrap_small (n := (d : Int) + 1 - 1) (by omega) (by omega), wrap_small (n := (j : Int) + 1) (by omega) (by omega), show (d : Int) + 1 - 1 = d by omega, up_le (mono_m _ _ _ _ _ _) (Nat.le_add_right k1 k2) h1, Option.bind_some, List.drop_eq_getElem_cons hlt, List.map_cons, List.sum_cons, ← Nat.add_assoc]
  rw [wrap_small (by omega) (by omega)]
  have := up_le (mono_m0 _ _ _ _ _ _ _ _) (Nat.le_add_left k2 k1) h2
  simpa using this
theorem many_spec (d : Nat) : d < 40 → ∀ e : Ex, Short e → formS d e = true → ∃ k, spec_l3Many.f k e.f0 e.f1 e.f2.f0 e.f2.f1 e.f3 d = some (manyS d e : Int) := by
 induction d with
 | zero => intro _ e _ h; cases h
 | succ d ih =>
  intro hd e he hf
  have hle := manyS_le (d + 1) e hf
  have hpow : 2 ^ (d + 1) ≤ 1099511627776 := Nat.le_trans (Nat.pow_le_pow_right (by omega) (show d + 1 ≤ 40 by omega)) (by decide)
  have hf' := hf
  rw [formS, Bool.and_eq_true] at hf'
  cases he with
  | mk _ hlen hk =>
  have hpow' : 2 ^ d ≤ 1099511627776 := Nat.le_trans (Nat.pow_le_pow_right (by omega) (show d ≤ 40 by omega)) (by decide)
  obtain ⟨k, h⟩ := many_loop d (by omega) e.f0 e.f1 e.f2.f0 e.f2.f1 e.f3 hlen (fun x hx => by have := manyS_le d x (List.all_eq_true.1 hf'.2 x hx); omega) (fun x hx => ih (by omega) x (hk x hx) (List.all_eq_true.1 hf'.2 x hx)) e.f3.length 0 1 (by omega) (by rw [manyS] at hle; simp only [List.drop_zero]; omega)
  refine ⟨k + 1, ?_⟩
  rw [show (((d + 1 : Nat)) : Int) = (d : Int) + 1 by omega, spec_l3Many.f, manyS]
  simpa using h
theorem exprOk_spec (e : Ex) (he : Short e) : ∃ k, spec_ExprOk.f k e.f0 e.f1 e.f2.f0 e.f2.f1 e.f3 = some (formS 6 e && decide (manyS 6 e ≤ 14)) := by
 obtain ⟨k1, h1⟩ := form_spec 6 (by omega) e he
 cases hf : formS 6 e with
 | false =>
  refine ⟨k1, ?_⟩
  rw [hf] at h1
  unfold spec_ExprOk.f
  have h1' : spec_l3Form.f k1 e.f0 e.f1 e.f2.f0 e.f2.f1 e.f3 6 = some false := h1
  rw [h1']; simp
 | true =>
  obtain ⟨k2, h2⟩ := many_spec 6 (by omega) e he hf
  rw [hf] at h1
  have h1' : spec_l3Form.f (k1 + k2) e.f0 e.f1 e.f2.f0 e.f2.f1 e.f3 6 = some true := up_le (mono_f _ _ _ _ _ _) (Nat.le_add_right k1 k2) h1
  have h2' : spec_l3Many.f (k1 + k2) e.f0 e.f1 e.f2.f0 e.f2.f1 e.f3 6 = some (manyS 6 e : Int) := up_le (mono_m _ _ _ _ _ _) (Nat.le_add_left k2 k1) h2
  refine ⟨k1 + k2, ?_⟩
  unfold spec_ExprOk.f
  rw [h1']
  simp only [Option.bind_some, if_true, h2', Bool.true_and]
  by_cases h14 : manyS 6 e ≤ 14
  ·rw [decide_eq_true h14, decide_eq_true (by omega)]
  ·rw [decide_eq_false h14, decide_eq_false (by omega)]
end Go.Proofs.YtendbgedpjcocaaGreatDoor.B
/- The draws of numbers, places and expressions end. -/
namespace Go.Proofs.YtendbgedpjcocaaGreatDoor.B
open Go.RowKit Go.Proofs.YtendbgedpjcocaaGreatDoorW.PrintWords Go.Proofs.YtendbgedpjcocaaGreatDoorW.PrintLast Go.Proofs.YtendbgedpjcocaaGreatDoorW.PrintMore
set_option linter.unusedVariables false

/-- A tree whose lists are short indeed. -/
inductive Tiny : Ex → Prop
 | mk (e : Ex) : e.f3.length ≤ 1000 → (∀ x ∈ e.f3, Tiny x) → Tiny e
theorem Tiny.short {e : Ex} (h : Tiny e) : Short e := by
 induction h with
 | mk e hl _ ih => exact .mk e (by omega) ih
theorem rd_mem (l : List Int) (i : Int) (h0 : 0 ≤ i) (h1 : i < l.length) : rd l i ∈ l := by
 have : i.toNat < l.length := by omega
 have e : rd l i = l[i.toNat] := by simp [rd, this]
 rw [e]; exact List.getElem_mem this
theorem num_total (s : List Int) (hs : Bytes s) (hl : s.length ≤ 2000) (p : Int) (hp : 0 ≤ p) (hp1 : p < 1099511627776) (l : List Int) (h1 : 1 ≤ l.length) (h2 : l.length < 1000) :
  ∃ x, x ∈ l ∧ ∀ k, spec_l12Rd_num.f (k + 1) s p l = some (x, p + 1) := by
 obtain ⟨r, r0, r1, hr⟩ := pick_total s hs hl p l.length hp hp1 (by omega) (by omega)
 refine ⟨rd l r, rd_mem l r r0 r1, fun k => ?_⟩
 rw [spec_l12Rd_num.f, hr k]
 simp only [Option.bind_some, if_pos r0, if_pos r1]
theorem addr_total (s : List Int) (hs : Bytes s) (hl : s.length ≤ 2000) (p : Int) (hp : 0 ≤ p) (hp1 : p < 1099511627770) :
  ∃ a b : Int, (1 ≤ a ∧ a ≤ 3) ∧ (0 ≤ b ∧ b < 3) ∧ ∀ k, spec_l2Addr.f (k + 1) s p = some (a, b, p + 2) := by
 obtain ⟨r, r0, r1, hr⟩ := pick_total s hs hl p 3 hp (by omega) (by omega) (by omega)
 obtain ⟨q, q0, q1, hq⟩ := pick_total s hs hl (p + 1) 3 (by omega) (by omega) (by omega) (by omega)
 refine ⟨1 + r, q, by omega, by omega, fun k => ?_⟩
 rw [spec_l2Addr.f, hr k]
 simp only [Option.bind_some]
 rw [hq k]
 simp only [Option.bind_some]
 rw [wrap_id (by omega) (by omega), show p + 1 + 1 = p + 2 by omega]
/-- What a draw of an expression leaves. -/
def Drew1 (o : Option (Int × Int × Int × Int × List Ex × Int)) (e : Ex) (p : Int) : Prop := o = some (e.f0, e.f1, e.f2.f0, e.f2.f1, e.f3, p)
theorem leaf_total (s : List Int) (hs : Bytes s) (hl : s.length ≤ 2000) (p : Int) (hp : 0 ≤ p) (hp1 : p < 1099511627000) (a1 : Int) :
  ∃ (e : Ex) (p' : Int), Tiny e ∧ p ≤ p' ∧ p' ≤ p + 3 ∧ ∀ k, Drew1 (spec_l3Expr.j0 (k + 2) a1 true s p) e p' := by
 obtain ⟨r, r0, r1, hr⟩ := pick_total s hs hl p 3 hp (by omega) (by omega) (by omega)
 by_cases hz : r = 0
 ·obtain ⟨x, hx, hn⟩ := num_total s hs hl (p + 1) (by omega) (by omega) [0, 1, 2, 3, (-1), 5, 1000000] (by simp) (by simp)
  refine ⟨⟨1, x, ⟨0, 0⟩, []⟩, p + 1 + 1, .mk _ (by simp) (by simp), by omega, by omega, fun k => ?_⟩
  unfold Drew1
  rw [spec_l3Expr.j0, if_pos rfl, hr k]
  simp only [Option.bind_some, if_pos hz]
  rw [hn k]; rfl
 ·obtain ⟨a, b, ha, hb, hq⟩ := addr_total s hs hl (p + 1) (by omega) (by omega)
  refine ⟨⟨2, 0, ⟨a, b⟩, []⟩, p + 1 + 2, .mk _ (by simp) (by simp), by omega, by omega, fun k => ?_⟩
  unfold Drew1
  rw [spec_l3Expr.j0, if_pos rfl, hr k]
  simp only [Option.bind_some, if_neg hz]
  rw [hq k]; rfl
theorem mono_ef (s : List Int) (p a : Int) : ∀ k, LeO (spec_l3Expr.f k s p a) (spec_l3Expr.f (k + 1) s p a) := fun k => (spec_l3Expr.mono_l k).1 s p a
theorem mono_el (x n : Int) (s : List Int) (p a b c d : Int) (l : List Ex) : ∀ k, LeO (spec_l3Expr.l0 k x n s p a b c d l) (spec_l3Expr.l0 (k + 1) x n s p a b c d l) := fun k => (spec_l3Expr.mono_l k).2.2 x n s p a b c d l
def bnd : Nat → Int
 | 0 => 10
 | d + 1 => 10 + 2 * bnd d
theorem kids_total (s : List Int) (d : Nat) (kd : Int) (B : Int) (hB : 0 ≤ B) (ih : ∀ p : Int, 0 ≤ p → p + B < 1099510000000 → ∃ (e : Ex) (p' : Int) (k : Nat), Tiny e ∧ p ≤ p' ∧ p' ≤ p + B ∧ Drew1 (spec_l3Expr.f k s p d) e p') (hd : d < 1000) :
  ∀ (n : Nat) (p : Int) (acc : List Ex), 0 ≤ p → p + n * B < 1099510000000 → acc.length + n ≤ 2 → (∀ x ∈ acc, Tiny x) →
   ∃ (l : List Ex) (p' : Int) (k : Nat), l.length = acc.length + n ∧ (∀ x ∈ l, Tiny x) ∧ p ≤ p' ∧ p' ≤ p + n * B ∧ spec_l3Expr.l0 k ((d : Int) + 1) n s p kd 0 0 0 acc = some (kd, 0, 0, 0, l, p') := by
 intro n
 induction n with
 | zero =>
  intro p acc hp hpb ha hacc
  exact ⟨acc, p, 1, by omega, hacc, by omega, by omega, by rw [spec_l3Expr.l0, if_neg (by omega)]⟩
 | succ n ihn =>
  intro p acc hp hpb ha hacc
  have e1 : ((n + 1 : Nat) : Int) * B = n * B + B := by rw [Int.natCast_add, Int.add_mul]; simp
  have nb : 0 ≤ (n : Int) * B := Int.mul_nonneg (by omega) hB
  rw [e1] at hpb
  obtain ⟨e, p1, k1, he, q1, q2, hk1⟩ := ih p hp (by omega)
  obtain ⟨l, p2, k2, hl1, hl2, q3, q4, hk2⟩ := ihn p1 (acc ++ [e]) (by omega) (by omega) (by simp; omega) (by intro x hx; rcases List.mem_append.1 hx with hx | hx; exact hacc x hx; simp at hx; rw [hx]; exact he)
  refine ⟨l, p2, k1 + k2 + 1, by rw [hl1]; simp; omega, hl2, by omega, by rw [e1]; omega, ?_⟩
  unfold Drew1 at hk1
  rw [spec_l3Expr.l0, if_pos (by omega), show (d : Int) + 1 - 1 = d by omega, wrap_id (n := (d : Int)) (by omega) (by omega), up_le (mono_ef _ _ _) (Nat.le_add_right k1 k2) hk1]
  simp only [Option.bind_some]
  rw [if_pos (by omega), show (((n + 1 : Nat) : Int) - 1) = (n : Int) by omega, wrap_id (n := (n : Int)) (by omega) (by omega)]
  have eta : (⟨e.f0, e.f1, ⟨e.f2.f0, e.f2.f1⟩, e.f3⟩ : Ex) = e := by cases e with | mk a b c l => cases c; rfl
  rw [eta]
  exact up_le (mono_el _ _ _ _ _ _ _ _ _) (Nat.le_add_left k2 k1) hk2
theorem bnd_pos (d : Nat) : 10 ≤ bnd d := by
 induction d with
 | zero => simp [bnd]
 | succ d ih => simp [bnd]; omega
theorem bnd_le (d : Nat) : d ≤ 10 → bnd d ≤ 100000 := by
 intro h
 have : d = 0 ∨ d = 1 ∨ d = 2 ∨ d = 3 ∨ d = 4 ∨ d = 5 ∨ d = 6 ∨ d = 7 ∨ d = 8 ∨ d = 9 ∨ d = 10 := by omega
 rcases this with rfl | rfl | rfl | rfl | rfl | rfl | rfl | rfl | rfl | rfl | rfl <;> decide
theorem expr_total (s : List Int) (hs : Bytes s) (hl : s.length ≤ 2000) (d : Nat) : d ≤ 10 → ∀ p : Int, 0 ≤ p → p + bnd d < 1099510000000 → ∃ (e : Ex) (p' : Int) (k : Nat), Tiny e ∧ p ≤ p' ∧ p' ≤ p + bnd d ∧ Drew1 (spec_l3Expr.f k s p d) e p' := by
 induction d with
 | zero =>
  intro _ p hp hp1
  have h10 := bnd_pos 0
  obtain ⟨e, p', he, q1, q2, h⟩ := leaf_total s hs hl p hp (by omega) 0
  refine ⟨e, p', 3, he, q1, by simp only [bnd]; omega, ?_⟩
  have := h 0
  unfold Drew1 at this ⊢
  rw [spec_l3Expr.f, if_pos (by omega)]
  exact this
 | succ d ih =>
  intro hd p hp hp1
  have hb := bnd_pos d
  have hb2 := bnd_le d (by omega)
  have hbd : bnd (d + 1) = 10 + 2 * bnd d := rfl
  by_cases h0 : d = 0
  ·subst h0
   obtain ⟨e, p', he, q1, q2, h⟩ := leaf_total s hs hl p hp (by omega) 1
   refine ⟨e, p', 3, he, q1, by omega, ?_⟩
   have := h 0
   unfold Drew1 at this ⊢
   rw [spec_l3Expr.f, if_pos (by omega)]
   exact this
  ·obtain ⟨r, r0, r1, hr⟩ := pick_total s hs hl p 4 hp (by omega) (by omega) (by omega)
   by_cases hz : r = 0
   ·obtain ⟨e, p', he, q1, q2, h⟩ := leaf_total s hs hl (p + 1) (by omega) (by omega) ((d + 1 : Nat) : Int)
    refine ⟨e, p', 3, he, by omega, by omega, ?_⟩
    have := h 0
    unfold Drew1 at this ⊢
    rw [spec_l3Expr.f, if_neg (by omega), hr 1]
    simp only [Option.bind_some, hz]
    exact this
   ·obtain ⟨x, hx, hn⟩ := num_total s hs hl (p + 1) (by omega) (by omega) [3, 3, 4, 5, 6, 6, 7, 8, 9, 10] (by simp) (by simp)
    have hx' : 3 ≤ x ∧ x ≤ 10 := by
     simp only [List.mem_cons, List.mem_nil_iff, or_false] at hx
     omega
    have hk2 : kidsN x = 1 ∨ kidsN x = 2 := by
     unfold kidsN
     rw [if_neg (by omega)]
     split
     ·exact .inr rfl
     ·exact .inl rfl
    obtain ⟨n, hn2, hnk⟩ : ∃ n : Nat, n ≤ 2 ∧ kidsN x = (n : Int) := by
     rcases hk2 with h | h
     ·exact ⟨1, by omega, by rw [h]; rfl⟩
     ·exact ⟨2, by omega, by rw [h]; rfl⟩
    have hmul : (n : Int) * bnd d ≤ 2 * bnd d := Int.mul_le_mul_of_nonneg_right (by omega) (by omega)
    obtain ⟨l, p', k, hl1, hl2, q1, q2, h⟩ := kids_total s d x (bnd d) (by omega) (fun q hq0 hq1 => ih (by omega) q hq0 hq1) (by omega) n (p + 2) [] (by omega) (by omega) (by simpa using hn2) (by simp)
    simp only [List.length_nil, Nat.zero_add] at hl1
    refine ⟨⟨x, 0, ⟨0, 0⟩, l⟩, p', k + 4, .mk _ (by show l.length ≤ _; omega) hl2, by omega, by omega, ?_⟩
    unfold Drew1
    have hz' : (r == 0) = false := beq_false_of_ne hz
    have hko : kindOk x = true := by unfold kindOk; exact decide_eq_true (by omega)
    rw [spec_l3Expr.f, if_neg (by omega), hr (k + 2)]
    simp only [Option.bind_some, hz']
    rw [spec_l3Expr.j0, if_neg (by decide), hn (k + 1)]
    simp only [Option.bind_some]
    rw [l3Kids_is (k + 1), hko, if_pos rfl, hnk]
    simp only [Option.bind_some]
    rw [show p + 1 + 1 = p + 2 by omega, show ((d + 1 : Nat) : Int) = (d : Int) + 1 by omega]
    exact up_le (mono_el _ _ _ _ _ _ _ _ _) (by omega) h
end Go.Proofs.YtendbgedpjcocaaGreatDoor.B
/- Worlds in which only whole numbers of some blocks have been written over: what the laws' own marks do. -/
namespace Go.Proofs.YtendbgedpjcocaaGreatDoor.B
open Go.RowKit Go.Proofs.YtendbgedpjcocaaGreatDoorW.PrintWords Go.Proofs.YtendbgedpjcocaaGreatDoorW.PrintLast Go.Proofs.YtendbgedpjcocaaGreatDoorW.PrintMore
set_option linter.unusedVariables false

def SameInt (a b : Option Value) : Prop := b = a ∨ ∃ z z' : Int, a = some (.int .i64 z) ∧ b = some (.int .i64 z')
/-- Elder blocks stay, but for whole numbers in blocks of F. -/
structure Ed (F : Nat → Prop) (w w' : World) : Prop where
 os : w'.os = w.os
 tape : w'.tape = w.tape
 output : w'.output = w.output
 size : w.heap.size ≤ w'.heap.size
 far : ∀ i, i < w.heap.size → ¬ F i → w'.heap[i]? = w.heap[i]?
 near : ∀ i (cs : Array Value) (t : TypeId), F i → w.heap[i]? = some (.cells cs t (0, 0)) → ∃ cs' : Array Value, w'.heap[i]? = some (.cells cs' t (0, 0)) ∧ cs'.size = cs.size ∧ ∀ j : Nat, SameInt cs[j]? cs'[j]?
theorem SameInt.trans {a b c : Option Value} (h : SameInt a b) (k : SameInt b c) : SameInt a c := by
 rcases h with rfl | ⟨z, z', rfl, rfl⟩
 ·exact k
 ·rcases k with rfl | ⟨y, y', h1, rfl⟩
  ·exact .inr ⟨z, z', rfl, rfl⟩
  ·exact .inr ⟨z, y', rfl, rfl⟩
theorem Ed.refl (F : Nat → Prop) (w : World) : Ed F w w := ⟨rfl, rfl, rfl, Nat.le_refl _, fun _ _ _ => rfl, fun i cs t _ h => ⟨cs, h, rfl, fun _ => .inl rfl⟩⟩
theorem Ed.trans {F : Nat → Prop} {w w1 w2 : World} (h : Ed F w w1) (k : Ed F w1 w2) : Ed F w w2 :=
 ⟨k.os.trans h.os, k.tape.trans h.tape, k.output.trans h.output, Nat.le_trans h.size k.size, fun i hi hn => (k.far i (Nat.lt_of_lt_of_le hi h.size) hn).trans (h.far i hi hn), fun i cs t hf hc => by
  obtain ⟨c1, h1, s1, q1⟩ := h.near i cs t hf hc
  obtain ⟨c2, h2, s2, q2⟩ := k.near i c1 t hf h1
  exact ⟨c2, h2, s2.trans s1, fun j => (q1 j).trans (q2 j)⟩⟩
theorem Ed.of_below {F : Nat → Prop} {w w' : World} (h : Below w.heap.size w w') : Ed F w w' :=
 ⟨h.os, h.tape, h.output, h.size, fun i hi _ => h.block i hi, fun i cs t _ hc => ⟨cs, (h.block i (blk_lt hc)).trans hc, rfl, fun _ => .inl rfl⟩⟩
theorem Ed.set {F : Nat → Prop} {w : World} {g t : Nat} {cur : Array Value} (hF : F g) (hb : w.heap[g]? = some (.cells cur t (0, 0))) (i : Nat) (z : Int) (hi : cur[i]? = some (.int .i64 z)) (z' : Int) : Ed F w (w.setCell ⟨g, i, none⟩ (.int .i64 z')) := by
 have hs : (w.setCell ⟨g, i, none⟩ (.int .i64 z')).heap[g]? = some (.cells (cur.setIfInBounds i (.int .i64 z')) t (0, 0)) := blk_set hb i _
 have ho : ∀ k, k ≠ g → (w.setCell ⟨g, i, none⟩ (.int .i64 z')).heap[k]? = w.heap[k]? := fun k hk => Below.heap_setCell w _ _ k hk
 refine ⟨rfl, rfl, rfl, ?_, fun k hk hn => ho k (fun h => hn (h ▸ hF)), fun k cs t' hf hc => ?_⟩
 ·refine Nat.le_of_not_lt (fun h => ?_)
  by_cases hg : (w.setCell ⟨g, i, none⟩ (.int .i64 z')).heap.size = g
  ·have := blk_lt hs; omega
  ·have h1 := ho _ hg
   rw [Array.getElem?_eq_none (Nat.le_refl _), Array.getElem?_eq_getElem h] at h1
   cases h1
 ·by_cases hk : k = g
  ·subst hk
   rw [hb] at hc
   injection hc with hc
   injection hc with h1 h2
   subst h1 h2
   refine ⟨_, hs, by simp, fun j => ?_⟩
   by_cases hj : i = j
   ·subst hj
    refine .inr ⟨z, z', hi, ?_⟩
    rw [Array.getElem?_setIfInBounds_self_of_lt]
    exact (Array.getElem?_eq_some_iff.1 hi).1
   ·exact .inl (Array.getElem?_setIfInBounds_ne hj)
  ·exact ⟨cs, (ho k hk).trans hc, rfl, fun _ => .inl rfl⟩
theorem Ed.below {F : Nat → Prop} {w w' : World} {B : Nat} (h : Ed F w w') (hF : ∀ b, F b → B ≤ b) (hB : B ≤ w.heap.size) : Below B w w' :=
 ⟨h.os, h.tape, h.output, h.size, fun k hk => h.far k (by omega) (fun hf => by have := hF k hf; omega)⟩
end Go.Proofs.YtendbgedpjcocaaGreatDoor.B
/- What impl.ExprOk's callers ask of it. -/
namespace Go.Proofs.YtendbgedpjcocaaGreatDoor.B
open Go.RowKit Go.Proofs.YtendbgedpjcocaaGreatDoorW.PrintWords Go.Proofs.YtendbgedpjcocaaGreatDoorW.PrintLast Go.Proofs.YtendbgedpjcocaaGreatDoorW.PrintMore
set_option linter.unusedVariables false

theorem three_blk (w : World) (a b c : Obj) : (((w.alloc a).alloc b).alloc c).heap.size = w.heap.size + 1 + 1 + 1 ∧ (((w.alloc a).alloc b).alloc c).heap[w.heap.size]? = some a ∧ (((w.alloc a).alloc b).alloc c).heap[w.heap.size + 1]? = some b ∧ (((w.alloc a).alloc b).alloc c).heap[w.heap.size + 1 + 1]? = some c ∧ Below w.heap.size w (((w.alloc a).alloc b).alloc c) := by
 have s1 : (w.alloc a).heap.size = w.heap.size + 1 := by simp
 have s2 : ((w.alloc a).alloc b).heap.size = w.heap.size + 1 + 1 := by simp
 have s3 : (((w.alloc a).alloc b).alloc c).heap.size = w.heap.size + 1 + 1 + 1 := by simp
 refine ⟨s3, ?_, ?_, ?_, (((Below.refl w.heap.size w).alloc (Nat.le_refl _) _).alloc (by omega) _).alloc (by omega) _⟩
 ·rw [Below.heap_alloc _ _ _ (by omega), Below.heap_alloc _ _ _ (by omega)]; exact heap_alloc_new w a
 ·rw [Below.heap_alloc _ _ _ (by omega), ← s1]; exact heap_alloc_new _ b
 ·rw [← s2]; exact heap_alloc_new _ c

def OkCon : Prop := ∀ (e : Ex) (A : Option Addr) (c : Nat) (w : World), Kd.C exK w A e.f3.length e.f3 → e.f3.length ≤ c →
 Calls Tryz.prog 48 #[.agg #[.int .i64 e.f0, .int .i64 e.f1, .int .i64 e.f2.f0, .int .i64 e.f2.f1, .slice A e.f3.length c]] w fun en w' => en = .returned (.bool (okL 0 (partsL e))) ∧ Below w.heap.size w w'
end Go.Proofs.YtendbgedpjcocaaGreatDoor.B
/- A printed function that ends from some fuel on; the loops of the laws' own helpers, once for all types. -/
namespace Go.Proofs.YtendbgedpjcocaaGreatDoor.B
open Go.RowKit Go.Proofs.YtendbgedpjcocaaGreatDoorW.PrintWords Go.Proofs.YtendbgedpjcocaaGreatDoorW.PrintLast Go.Proofs.YtendbgedpjcocaaGreatDoorW.PrintMore
set_option linter.unusedVariables false

def Ends {α : Type} (f : Nat → Option α) (r : α) : Prop := ∃ K, ∀ k, K ≤ k → f k = some r
theorem Ends.const {α : Type} {f : Nat → Option α} {r : α} (h : ∀ k, f k = some r) : Ends f r := ⟨0, fun k _ => h k⟩
theorem Ends.bind {α β : Type} {f : Nat → Option α} {g : Nat → α → Option β} {a : α} {r : β} (h : Ends f a) (h' : Ends (fun k => g k a) r) : Ends (fun k => (f k).bind (g k)) r := by
 obtain ⟨K, hK⟩ := h
 obtain ⟨K', hK'⟩ := h'
 exact ⟨max K K', fun k hk => by show (f k).bind (g k) = some r; rw [hK k (by omega), Option.bind_some]; exact hK' k (by omega)⟩
theorem Ends.succ {α : Type} {f g : Nat → Option α} {r : α} (h : ∀ k, f (k + 1) = g k) (hg : Ends g r) : Ends f r := by
 obtain ⟨K, hK⟩ := hg
 exact ⟨K + 1, fun k hk => by obtain ⟨k', rfl⟩ : ∃ k', k = k' + 1 := ⟨k - 1, by omega⟩; rw [h]; exact hK k' (by omega)⟩
theorem Ends.of {α : Type} {f g : Nat → Option α} {r : α} (hg : Ends g r) (h : ∀ k, f k = g k) : Ends f r := by
 obtain ⟨K, hK⟩ := hg
 exact ⟨K, fun k hk => by rw [h]; exact hK k hk⟩
theorem wrap_in {n : Int} (h0 : -9223372036854775808 ≤ n) (h1 : n ≤ 9223372036854775807) : wrap64 n = n := by
 unfold wrap64
 omega
section loops
variable {α β : Type} {rd : List α → Int → α} (hrd : ∀ (l : List α) (j : Nat) (h : j < l.length), rd l (j : Int) = l[j])
include hrd
end loops
end Go.Proofs.YtendbgedpjcocaaGreatDoor.B
/- impl.readMem: a memory is read, if it is ok. -/
namespace Go.Proofs.YtendbgedpjcocaaGreatDoor.B
open Go.RowKit Go.Proofs.YtendbgedpjcocaaGreatDoorW.PrintWords Go.Proofs.YtendbgedpjcocaaGreatDoorW.PrintLast Go.Proofs.YtendbgedpjcocaaGreatDoorW.PrintMore
set_option linter.unusedVariables false

def listOk (l : List Int) : Bool := l.length == 6 && !l.any fun n => !isNumL n
theorem listOk_len {l : List Int} (h : listOk l = true) : l.length = 6 := by
 unfold listOk at h; simp only [Bool.and_eq_true, beq_iff_eq] at h; exact h.1
/-- What the memory holds, when so many lists have been read. -/
def memB (l0 l1 l2 : List Int) : Nat → List Int
 | 0 => List.replicate 18 0
 | 1 => l0 ++ List.replicate 12 0
 | 2 => l0 ++ l1 ++ List.replicate 6 0
 | _ => l0 ++ l1 ++ l2
def okT (l0 l1 l2 : List Int) : Nat → Bool
 | 0 => true
 | 1 => listOk l0
 | 2 => listOk l0 && listOk l1
 | _ => listOk l0 && (listOk l1 && listOk l2)
abbrev iv (l : List Int) : List Value := l.map (Value.int .i64)
theorem iv_len (l : List Int) : (iv l).length = l.length := by simp [iv]
theorem memB_len {l0 l1 l2 : List Int} : ∀ j, okT l0 l1 l2 j = true → (memB l0 l1 l2 j).length = 18
 | 0, _ => rfl
 | 1, h => by have := listOk_len h; simp [memB, this]
 | 2, h => by
  simp only [okT, Bool.and_eq_true] at h
  simp [memB, listOk_len h.1, listOk_len h.2]
 | j + 3, h => by
  simp only [okT, Bool.and_eq_true] at h
  simp [memB, listOk_len h.1, listOk_len h.2.1, listOk_len h.2.2]
theorem six (l : List Int) (h : l.length = 6) : ∃ a0 a1 a2 a3 a4 a5, l = [a0, a1, a2, a3, a4, a5] := by
 match l, h with
 | [a0, a1, a2, a3, a4, a5], _ => exact ⟨a0, a1, a2, a3, a4, a5, rfl⟩
theorem int_at2 {w : World} {A : Option Addr} {l : List Int} (h : Kd.C (Kd.int .i64) w A l.length l) (j : Nat) (hj : j < l.length) : ∃ ad x, A = some ad ∧ l[j]? = some x ∧ w.cell? (ad.add j) = some (.int .i64 x) := by
 obtain ⟨ad, hA, e⟩ := int_at h j hj
 exact ⟨ad, l[j], hA, List.getElem?_eq_getElem hj, e⟩
theorem six_get {l : List Int} {x0 x1 x2 x3 x4 x5 : Int} (h : l.length = 6) (h0 : l[0]? = some x0) (h1 : l[1]? = some x1) (h2 : l[2]? = some x2) (h3 : l[3]? = some x3) (h4 : l[4]? = some x4) (h5 : l[5]? = some x5) : l = [x0, x1, x2, x3, x4, x5] := by
 obtain ⟨a0, a1, a2, a3, a4, a5, rfl⟩ := six l h
 simp at h0 h1 h2 h3 h4 h5
 subst h0 h1 h2 h3 h4 h5
 rfl
theorem memB_put {l0 l1 l2 l : List Int} (j : Nat) (hj : j < 3) (hk : okT l0 l1 l2 j = true) (hl : l.length = 6) (hn : l = if j = 0 then l0 else if j = 1 then l1 else l2) :
  (iv (memB l0 l1 l2 j)).take (j * 6) ++ iv l ++ (iv (memB l0 l1 l2 j)).drop (j * 6 + (iv l).length) = iv (memB l0 l1 l2 (j + 1)) := by
 rw [iv_len, hl]
 have h3 : j = 0 ∨ j = 1 ∨ j = 2 := by omega
 rcases h3 with rfl | rfl | rfl
 ·simp only [if_true] at hn
  subst hn
  simp [memB, iv]
 ·have h0 := listOk_len hk
  simp at hn
  subst hn
  simp only [memB, iv, List.map_append]
  simp [h0, List.drop_append]
 ·simp only [okT, Bool.and_eq_true] at hk
  have h0 := listOk_len hk.1
  have h1 := listOk_len hk.2
  simp at hn
  subst hn
  have e1 : List.take 12 (List.map (Value.int .i64) l0) = List.map (Value.int .i64) l0 := List.take_of_length_le (by simp [h0])
  have e2 : List.drop 18 (List.map (Value.int .i64) l0) = [] := List.drop_eq_nil_of_le (by simp [h0])
  have e3 : List.drop 12 (List.map (Value.int .i64) l1) = [] := List.drop_eq_nil_of_le (by simp [h1])
  simp [memB, iv, h0, h1, List.take_append, List.drop_append, e1, e2, e3]
theorem arrayAt_bank (a : Option Addr) (c : Nat) (W : World) : (Instr.arrayAt 97 (.slice a 6 c)).run Tryz.prog W = .ok (.pointer a) W := by
 simp [Instr.arrayAt, run_underlying Tryz.underlying97]
theorem three_blocks' (w : World) (a b c : Obj) : (((w.alloc a).alloc b).alloc c).heap.size = w.heap.size + 1 + 1 + 1 ∧ (((w.alloc a).alloc b).alloc c).heap[w.heap.size]? = some a ∧ (((w.alloc a).alloc b).alloc c).heap[w.heap.size + 1]? = some b ∧ (((w.alloc a).alloc b).alloc c).heap[w.heap.size + 1 + 1]? = some c ∧ Below w.heap.size w (((w.alloc a).alloc b).alloc c) := by
 have s1 : (w.alloc a).heap.size = w.heap.size + 1 := by simp
 have s2 : ((w.alloc a).alloc b).heap.size = w.heap.size + 1 + 1 := by simp
 have s3 : (((w.alloc a).alloc b).alloc c).heap.size = w.heap.size + 1 + 1 + 1 := by simp
 refine ⟨s3, ?_, ?_, ?_, (((Below.refl w.heap.size w).alloc (Nat.le_refl _) _).alloc (by omega) _).alloc (by omega) _⟩
 ·rw [Below.heap_alloc _ _ _ (by omega), Below.heap_alloc _ _ _ (by omega)]; exact heap_alloc_new w a
 ·rw [Below.heap_alloc _ _ _ (by omega), ← s1]; exact heap_alloc_new _ b
 ·rw [← s2]; exact heap_alloc_new _ c

set_option maxRecDepth 100000 in
set_option maxHeartbeats 8000000 in
theorem readMem_new (l0 l1 l2 : List Int) (A0 A1 A2 : Option Addr) (c0 c1 c2 : Nat) (w : World) (h0 : Kd.C (Kd.int .i64) w A0 l0.length l0) (h1 : Kd.C (Kd.int .i64) w A1 l1.length l1) (h2 : Kd.C (Kd.int .i64) w A2 l2.length l2) (m0 : l0.length ≤ c0) (m1 : l1.length ≤ c1) (m2 : l2.length ≤ c2) :
  Calls Tryz.prog 35 #[.agg #[.slice A0 l0.length c0, .slice A1 l1.length c1, .slice A2 l2.length c2]] w fun e w' =>
   (((listOk l0 && (listOk l1 && listOk l2)) = true ∧ ∃ g, w.heap.size ≤ g ∧ e = .returned (.tuple #[.pointer (some ⟨g, 0, none⟩), .bool true]) ∧ MemAt w' g (l0 ++ l1 ++ l2)) ∨ ((listOk l0 && (listOk l1 && listOk l2)) = false ∧ e = .returned (.tuple #[.pointer none, .bool false]))) ∧ Below w.heap.size w w' := by
 have hnl : Pr 65 (fun n => !isNumL n) := notNum_any
 have hen : ∀ args w, (callFunc 65 args).run Tryz.prog w = .ok (.enter 65 args) w := enters_of Tryz.func65 (by kernel_rfl) rfl
 have HC := Aside0.mk (And.intro h0 (And.intro h1 (And.intro h2 (And.intro m0 (And.intro m1 (And.intro m2 (And.intro hnl hen)))))))
 clear h0 h1 h2 m0 m1 m2 hnl hen
 obtain ⟨hs, k1, k2, k3, hB0⟩ := three_blocks' w (.cells #[.slice A0 l0.length c0, .slice A1 l1.length c1, .slice A2 l2.length c2] 30 (0, 0)) (.cells #[.int .i64 0, .int .i64 0, .int .i64 0, .int .i64 0, .int .i64 0, .int .i64 0, .int .i64 0, .int .i64 0, .int .i64 0, .int .i64 0, .int .i64 0, .int .i64 0, .int .i64 0, .int .i64 0, .int .i64 0, .int .i64 0, .int .i64 0, .int .i64 0] 100 (0, 0)) (.cells #[.slice A0 l0.length c0, .slice A1 l1.length c1, .slice A2 l2.length c2] 28 (0, 0))
 have HK := Aside0.mk (And.intro k2 (And.intro k3 hB0))
 clear hs k1 k2 k3 hB0
 go_enter Tryz.func35, Tryz.ntmps35
 go_wp2
 generalize ((w.alloc (.cells #[.slice A0 l0.length c0, .slice A1 l1.length c1, .slice A2 l2.length c2] 30)).alloc (.cells #[.int .i64 0, .int .i64 0, .int .i64 0, .int .i64 0, .int .i64 0, .int .i64 0, .int .i64 0, .int .i64 0, .int .i64 0, .int .i64 0, .int .i64 0, .int .i64 0, .int .i64 0, .int .i64 0, .int .i64 0, .int .i64 0, .int .i64 0, .int .i64 0] 100)).alloc (.cells #[.slice A0 l0.length c0, .slice A1 l1.length c1, .slice A2 l2.length c2] 28) = W0 at HK ⊢
 go_loopw [5, 6, 17] (fun _ _ i wr => ∃ (j : Nat), i = .int .i64 j ∧ Aside0 (j ≤ 3 ∧ okT l0 l1 l2 j = true ∧ wr.heap[w.heap.size + 1]? = some (.cells (iv (memB l0 l1 l2 j)).toArray 100 (0, 0)) ∧ wr.heap[w.heap.size + 1 + 1]? = some (.cells #[.slice A0 l0.length c0, .slice A1 l1.length c1, .slice A2 l2.length c2] 28 (0, 0)) ∧ Below w.heap.size w wr)) (fun _ _ i _ => 3 - (intOf i).toNat)
 case atStart => exact ⟨0, rfl, ⟨Nat.zero_le _, rfl, HK.out.1, HK.out.2.1, HK.out.2.2⟩⟩
 case round =>
  obtain ⟨j, rfl, HR⟩ := hrel
  by_cases hj : j < 3
  ·have h3 : j = 0 ∨ j = 1 ∨ j = 2 := by omega
   rcases h3 with rfl | rfl | rfl
   ·have q : wr.cell? ⟨w.heap.size + 1 + 1, 0, none⟩ = some (.slice A0 l0.length c0) := by rw [blk_cell HR.out.2.2.2.1]; rfl
    by_cases h6 : l0.length = 6
    ·have b6 : ((l0.length : Int) != 6) = false := by rw [h6]; rfl
     have hC := Kd.C_below HC.out.1 HR.out.2.2.2.2
     have hcall := containsFunc_any 65 (fun n => !isNumL n) HC.out.2.2.2.2.2.2.1 HC.out.2.2.2.2.2.2.2 l0 A0 c0 wr hC HC.out.2.2.2.1
     obtain ⟨ad, x0, hA, z0, e0⟩ := int_at2 hC 0 (by omega)
     obtain ⟨ad1, x1, hA1, z1, e1⟩ := int_at2 hC 1 (by omega)
     obtain ⟨ad2, x2, hA2, z2, e2⟩ := int_at2 hC 2 (by omega)
     obtain ⟨ad3, x3, hA3, z3, e3⟩ := int_at2 hC 3 (by omega)
     obtain ⟨ad4, x4, hA4, z4, e4⟩ := int_at2 hC 4 (by omega)
     obtain ⟨ad5, x5, hA5, z5, e5⟩ := int_at2 hC 5 (by omega)
     rw [hA] at hA1 hA2 hA3 hA4 hA5
     cases hA1; cases hA2; cases hA3; cases hA4; cases hA5
     simp only [show ad.add 0 = ad by simp [Addr.add], show ad.add 1 = ⟨ad.block, ad.off + 1, none⟩ by simp [Addr.add], show ad.add 2 = ⟨ad.block, ad.off + 2, none⟩ by simp [Addr.add], show ad.add 3 = ⟨ad.block, ad.off + 3, none⟩ by simp [Addr.add], show ad.add 4 = ⟨ad.block, ad.off + 4, none⟩ by simp [Addr.add], show ad.add 5 = ⟨ad.block, ad.off + 5, none⟩ by simp [Addr.add]] at e0 e1 e2 e3 e4 e5
     have hx := six_get h6 z0 z1 z2 z3 z4 z5
     have HD : Aside0 (_ ∧ _ ∧ _) := Aside0.mk (And.intro h6 (And.intro hx (And.intro e0 (And.intro e1 (And.intro e2 (And.intro e3 (And.intro e4 e5)))))))
     rw [h6] at q hcall b6
     rw [hA] at q hcall
     have HF := Aside0.mk hcall
     clear hcall hC hA hx z0 z1 z2 z3 z4 z5 e0 e1 e2 e3 e4 e5
     cases hv : l0.any (fun n => !isNumL n) with
     | true =>
      have HV := Aside0.mk hv; clear hv
      go_wp2_with fail
      refine HF.out.mono ?_
      clear HF
      rintro e w1 ⟨rfl, hb1⟩
      rw [HV.out]
      have HB := Aside0.mk (HR.out.2.2.2.2.trans (hb1.mono HR.out.2.2.2.2.size)); clear hb1
      go_wp2
      go_ret2
      exact ⟨.inr ⟨by unfold listOk; rw [HV.out]; simp, rfl⟩, HB.out⟩
     | false =>
      have HV := Aside0.mk hv; clear hv
      go_wp2_with fail
      refine HF.out.mono ?_
      clear HF
      rintro e w1 ⟨rfl, hb1⟩
      rw [HV.out]
      have hb := hb1
      have e0 := (hb.cell (World.block_lt_of_cell? wr _ HD.out.2.2.1)).trans HD.out.2.2.1
      have e1 := (hb.cell (World.block_lt_of_cell? wr _ HD.out.2.2.2.1)).trans HD.out.2.2.2.1
      have e2 := (hb.cell (World.block_lt_of_cell? wr _ HD.out.2.2.2.2.1)).trans HD.out.2.2.2.2.1
      have e3 := (hb.cell (World.block_lt_of_cell? wr _ HD.out.2.2.2.2.2.1)).trans HD.out.2.2.2.2.2.1
      have e4 := (hb.cell (World.block_lt_of_cell? wr _ HD.out.2.2.2.2.2.2.1)).trans HD.out.2.2.2.2.2.2.1
      have e5 := (hb.cell (World.block_lt_of_cell? wr _ HD.out.2.2.2.2.2.2.2)).trans HD.out.2.2.2.2.2.2.2
      have kb := (hb.block _ (blk_lt HR.out.2.2.1)).trans HR.out.2.2.1
      have kr := (hb.block _ (blk_lt HR.out.2.2.2.1)).trans HR.out.2.2.2.1
      have hB1 : Below w.heap.size w w1 := HR.out.2.2.2.2.trans (hb1.mono HR.out.2.2.2.2.size)
      have hsz : (iv (memB l0 l1 l2 0)).toArray.size = 18 := by rw [List.size_toArray, iv_len]; exact memB_len 0 HR.out.2.1
      obtain ⟨o0, q0⟩ : ∃ o, w1.cell? ⟨w.heap.size + 1, 0, none⟩ = some o := ⟨_, (blk_cell kb 0).trans (Array.getElem?_eq_getElem (by omega))⟩
      have y0 : w1.frozen? ⟨w.heap.size + 1, 0, none⟩ = false := blk_frozen kb 0
      obtain ⟨o1, q1⟩ : ∃ o, w1.cell? ⟨w.heap.size + 1, 1, none⟩ = some o := ⟨_, (blk_cell kb 1).trans (Array.getElem?_eq_getElem (by omega))⟩
      have y1 : w1.frozen? ⟨w.heap.size + 1, 1, none⟩ = false := blk_frozen kb 1
      obtain ⟨o2, q2⟩ : ∃ o, w1.cell? ⟨w.heap.size + 1, 2, none⟩ = some o := ⟨_, (blk_cell kb 2).trans (Array.getElem?_eq_getElem (by omega))⟩
      have y2 : w1.frozen? ⟨w.heap.size + 1, 2, none⟩ = false := blk_frozen kb 2
      obtain ⟨o3, q3⟩ : ∃ o, w1.cell? ⟨w.heap.size + 1, 3, none⟩ = some o := ⟨_, (blk_cell kb 3).trans (Array.getElem?_eq_getElem (by omega))⟩
      have y3 : w1.frozen? ⟨w.heap.size + 1, 3, none⟩ = false := blk_frozen kb 3
      obtain ⟨o4, q4⟩ : ∃ o, w1.cell? ⟨w.heap.size + 1, 4, none⟩ = some o := ⟨_, (blk_cell kb 4).trans (Array.getElem?_eq_getElem (by omega))⟩
      have y4 : w1.frozen? ⟨w.heap.size + 1, 4, none⟩ = false := blk_frozen kb 4
      obtain ⟨o5, q5⟩ : ∃ o, w1.cell? ⟨w.heap.size + 1, 5, none⟩ = some o := ⟨_, (blk_cell kb 5).trans (Array.getElem?_eq_getElem (by omega))⟩
      have y5 : w1.frozen? ⟨w.heap.size + 1, 5, none⟩ = false := blk_frozen kb 5
      obtain ⟨cur, s1, s2, s3⟩ := setCells_row (g := w.heap.size + 1) [.int .i64 x0, .int .i64 x1, .int .i64 x2, .int .i64 x3, .int .i64 x4, .int .i64 x5] (0 * 6) w1 _ kb (by rw [hsz]; simp)
      have s4 : (((((((w1.setCell ⟨w.heap.size + 1, 0, none⟩ (.int .i64 x0)).setCell ⟨w.heap.size + 1, 1, none⟩ (.int .i64 x1)).setCell ⟨w.heap.size + 1, 2, none⟩ (.int .i64 x2)).setCell ⟨w.heap.size + 1, 3, none⟩ (.int .i64 x3)).setCell ⟨w.heap.size + 1, 4, none⟩ (.int .i64 x4)).setCell ⟨w.heap.size + 1, 5, none⟩ (.int .i64 x5)).drew).heap[w.heap.size + 1]? = some (.cells (iv (memB l0 l1 l2 1)).toArray 100 (0, 0)) := by
       have hput := memB_put (l := l0) 0 (by omega) HR.out.2.1 HD.out.1 rfl
       have hcur : cur = (iv (memB l0 l1 l2 1)).toArray := by
        have hiv : iv l0 = [.int .i64 x0, .int .i64 x1, .int .i64 x2, .int .i64 x3, .int .i64 x4, .int .i64 x5] := (congrArg iv HD.out.2.1).trans rfl
        apply Array.toList_inj.1
        rw [hiv] at hput
        rw [← hput]
        exact s3
       rw [← hcur]
       exact blk_drew s1
      have s5 : (((((((w1.setCell ⟨w.heap.size + 1, 0, none⟩ (.int .i64 x0)).setCell ⟨w.heap.size + 1, 1, none⟩ (.int .i64 x1)).setCell ⟨w.heap.size + 1, 2, none⟩ (.int .i64 x2)).setCell ⟨w.heap.size + 1, 3, none⟩ (.int .i64 x3)).setCell ⟨w.heap.size + 1, 4, none⟩ (.int .i64 x4)).setCell ⟨w.heap.size + 1, 5, none⟩ (.int .i64 x5)).drew).heap[w.heap.size + 1 + 1]? = some (.cells #[.slice A0 l0.length c0, .slice A1 l1.length c1, .slice A2 l2.length c2] 28 (0, 0)) := by
       refine blk_drew ?_
       refine blk_far (blk_far (blk_far (blk_far (blk_far (blk_far kr ?_ _) ?_ _) ?_ _) ?_ _) ?_ _) ?_ _ <;> simp
      have s6 : Below w.heap.size w (((((((w1.setCell ⟨w.heap.size + 1, 0, none⟩ (.int .i64 x0)).setCell ⟨w.heap.size + 1, 1, none⟩ (.int .i64 x1)).setCell ⟨w.heap.size + 1, 2, none⟩ (.int .i64 x2)).setCell ⟨w.heap.size + 1, 3, none⟩ (.int .i64 x3)).setCell ⟨w.heap.size + 1, 4, none⟩ (.int .i64 x4)).setCell ⟨w.heap.size + 1, 5, none⟩ (.int .i64 x5)).drew) := below_drew (below_set (below_set (below_set (below_set (below_set (below_set hB1 (by omega)) (by omega)) (by omega)) (by omega)) (by omega)) (by omega))
      have s7 : okT l0 l1 l2 1 = true := by
       have hp := HR.out.2.1
       have hq : listOk l0 = true := by unfold listOk; rw [HD.out.1, HV.out]; rfl
       exact hq
      have HS := Aside0.mk (And.intro s7 (And.intro s4 (And.intro s5 s6)))
      clear s1 s2 s3 s4 s5 s6 s7 hB1 kb kr hb hb1 hsz h6
      go_wp2
      have harr := arrayAt_bank (some ad)
      go_region
      go_wp2
      go_roundw
      case rel => exact ⟨1, by simp, ⟨by omega, HS.out.1, HS.out.2.1, HS.out.2.2.1, HS.out.2.2.2⟩⟩
      case measure => simp [intOf]
    ·have b6 : ((l0.length : Int) != 6) = true := by rw [bne_iff_ne]; omega
     have H6 := Aside0.mk h6; clear h6
     go_wp2
     go_ret2
     exact ⟨.inr ⟨by
      have : listOk l0 = false := by unfold listOk; rw [show (l0.length == 6) = false from beq_false_of_ne H6.out]; rfl
      rw [this]; simp, rfl⟩, HR.out.2.2.2.2⟩
   ·have q : wr.cell? ⟨w.heap.size + 1 + 1, 1, none⟩ = some (.slice A1 l1.length c1) := by rw [blk_cell HR.out.2.2.2.1]; rfl
    by_cases h6 : l1.length = 6
    ·have b6 : ((l1.length : Int) != 6) = false := by rw [h6]; rfl
     have hC := Kd.C_below HC.out.2.1 HR.out.2.2.2.2
     have hcall := containsFunc_any 65 (fun n => !isNumL n) HC.out.2.2.2.2.2.2.1 HC.out.2.2.2.2.2.2.2 l1 A1 c1 wr hC HC.out.2.2.2.2.1
     obtain ⟨ad, x0, hA, z0, e0⟩ := int_at2 hC 0 (by omega)
     obtain ⟨ad1, x1, hA1, z1, e1⟩ := int_at2 hC 1 (by omega)
     obtain ⟨ad2, x2, hA2, z2, e2⟩ := int_at2 hC 2 (by omega)
     obtain ⟨ad3, x3, hA3, z3, e3⟩ := int_at2 hC 3 (by omega)
     obtain ⟨ad4, x4, hA4, z4, e4⟩ := int_at2 hC 4 (by omega)
     obtain ⟨ad5, x5, hA5, z5, e5⟩ := int_at2 hC 5 (by omega)
     rw [hA] at hA1 hA2 hA3 hA4 hA5
     cases hA1; cases hA2; cases hA3; cases hA4; cases hA5
     simp only [show ad.add 0 = ad by simp [Addr.add], show ad.add 1 = ⟨ad.block, ad.off + 1, none⟩ by simp [Addr.add], show ad.add 2 = ⟨ad.block, ad.off + 2, none⟩ by simp [Addr.add], show ad.add 3 = ⟨ad.block, ad.off + 3, none⟩ by simp [Addr.add], show ad.add 4 = ⟨ad.block, ad.off + 4, none⟩ by simp [Addr.add], show ad.add 5 = ⟨ad.block, ad.off + 5, none⟩ by simp [Addr.add]] at e0 e1 e2 e3 e4 e5
     have hx := six_get h6 z0 z1 z2 z3 z4 z5
     have HD : Aside0 (_ ∧ _ ∧ _) := Aside0.mk (And.intro h6 (And.intro hx (And.intro e0 (And.intro e1 (And.intro e2 (And.intro e3 (And.intro e4 e5)))))))
     rw [h6] at q hcall b6
     rw [hA] at q hcall
     have HF := Aside0.mk hcall
     clear hcall hC hA hx z0 z1 z2 z3 z4 z5 e0 e1 e2 e3 e4 e5
     cases hv : l1.any (fun n => !isNumL n) with
     | true =>
      have HV := Aside0.mk hv; clear hv
      go_wp2_with fail
      refine HF.out.mono ?_
      clear HF
      rintro e w1 ⟨rfl, hb1⟩
      rw [HV.out]
      have HB := Aside0.mk (HR.out.2.2.2.2.trans (hb1.mono HR.out.2.2.2.2.size)); clear hb1
      go_wp2
      go_ret2
      exact ⟨.inr ⟨by unfold listOk; rw [HV.out]; simp, rfl⟩, HB.out⟩
     | false =>
      have HV := Aside0.mk hv; clear hv
      go_wp2_with fail
      refine HF.out.mono ?_
      clear HF
      rintro e w1 ⟨rfl, hb1⟩
      rw [HV.out]
      have hb := hb1
      have e0 := (hb.cell (World.block_lt_of_cell? wr _ HD.out.2.2.1)).trans HD.out.2.2.1
      have e1 := (hb.cell (World.block_lt_of_cell? wr _ HD.out.2.2.2.1)).trans HD.out.2.2.2.1
      have e2 := (hb.cell (World.block_lt_of_cell? wr _ HD.out.2.2.2.2.1)).trans HD.out.2.2.2.2.1
      have e3 := (hb.cell (World.block_lt_of_cell? wr _ HD.out.2.2.2.2.2.1)).trans HD.out.2.2.2.2.2.1
      have e4 := (hb.cell (World.block_lt_of_cell? wr _ HD.out.2.2.2.2.2.2.1)).trans HD.out.2.2.2.2.2.2.1
      have e5 := (hb.cell (World.block_lt_of_cell? wr _ HD.out.2.2.2.2.2.2.2)).trans HD.out.2.2.2.2.2.2.2
      have kb := (hb.block _ (blk_lt HR.out.2.2.1)).trans HR.out.2.2.1
      have kr := (hb.block _ (blk_lt HR.out.2.2.2.1)).trans HR.out.2.2.2.1
      have hB1 : Below w.heap.size w w1 := HR.out.2.2.2.2.trans (hb1.mono HR.out.2.2.2.2.size)
      have hsz : (iv (memB l0 l1 l2 1)).toArray.size = 18 := by rw [List.size_toArray, iv_len]; exact memB_len 1 HR.out.2.1
      obtain ⟨o0, q0⟩ : ∃ o, w1.cell? ⟨w.heap.size + 1, 6, none⟩ = some o := ⟨_, (blk_cell kb 6).trans (Array.getElem?_eq_getElem (by omega))⟩
      have y0 : w1.frozen? ⟨w.heap.size + 1, 6, none⟩ = false := blk_frozen kb 6
      obtain ⟨o1, q1⟩ : ∃ o, w1.cell? ⟨w.heap.size + 1, 7, none⟩ = some o := ⟨_, (blk_cell kb 7).trans (Array.getElem?_eq_getElem (by omega))⟩
      have y1 : w1.frozen? ⟨w.heap.size + 1, 7, none⟩ = false := blk_frozen kb 7
      obtain ⟨o2, q2⟩ : ∃ o, w1.cell? ⟨w.heap.size + 1, 8, none⟩ = some o := ⟨_, (blk_cell kb 8).trans (Array.getElem?_eq_getElem (by omega))⟩
      have y2 : w1.frozen? ⟨w.heap.size + 1, 8, none⟩ = false := blk_frozen kb 8
      obtain ⟨o3, q3⟩ : ∃ o, w1.cell? ⟨w.heap.size + 1, 9, none⟩ = some o := ⟨_, (blk_cell kb 9).trans (Array.getElem?_eq_getElem (by omega))⟩
      have y3 : w1.frozen? ⟨w.heap.size + 1, 9, none⟩ = false := blk_frozen kb 9
      obtain ⟨o4, q4⟩ : ∃ o, w1.cell? ⟨w.heap.size + 1, 10, none⟩ = some o := ⟨_, (blk_cell kb 10).trans (Array.getElem?_eq_getElem (by omega))⟩
      have y4 : w1.frozen? ⟨w.heap.size + 1, 10, none⟩ = false := blk_frozen kb 10
      obtain ⟨o5, q5⟩ : ∃ o, w1.cell? ⟨w.heap.size + 1, 11, none⟩ = some o := ⟨_, (blk_cell kb 11).trans (Array.getElem?_eq_getElem (by omega))⟩
      have y5 : w1.frozen? ⟨w.heap.size + 1, 11, none⟩ = false := blk_frozen kb 11
      obtain ⟨cur, s1, s2, s3⟩ := setCells_row (g := w.heap.size + 1) [.int .i64 x0, .int .i64 x1, .int .i64 x2, .int .i64 x3, .int .i64 x4, .int .i64 x5] (1 * 6) w1 _ kb (by rw [hsz]; simp)
      have s4 : (((((((w1.setCell ⟨w.heap.size + 1, 6, none⟩ (.int .i64 x0)).setCell ⟨w.heap.size + 1, 7, none⟩ (.int .i64 x1)).setCell ⟨w.heap.size + 1, 8, none⟩ (.int .i64 x2)).setCell ⟨w.heap.size + 1, 9, none⟩ (.int .i64 x3)).setCell ⟨w.heap.size + 1, 10, none⟩ (.int .i64 x4)).setCell ⟨w.heap.size + 1, 11, none⟩ (.int .i64 x5)).drew).heap[w.heap.size + 1]? = some (.cells (iv (memB l0 l1 l2 2)).toArray 100 (0, 0)) := by
       have hput := memB_put (l := l1) 1 (by omega) HR.out.2.1 HD.out.1 rfl
       have hcur : cur = (iv (memB l0 l1 l2 2)).toArray := by
        have hiv : iv l1 = [.int .i64 x0, .int .i64 x1, .int .i64 x2, .int .i64 x3, .int .i64 x4, .int .i64 x5] := (congrArg iv HD.out.2.1).trans rfl
        apply Array.toList_inj.1
        rw [hiv] at hput
        rw [← hput]
        exact s3
       rw [← hcur]
       exact blk_drew s1
      have s5 : (((((((w1.setCell ⟨w.heap.size + 1, 6, none⟩ (.int .i64 x0)).setCell ⟨w.heap.size + 1, 7, none⟩ (.int .i64 x1)).setCell ⟨w.heap.size + 1, 8, none⟩ (.int .i64 x2)).setCell ⟨w.heap.size + 1, 9, none⟩ (.int .i64 x3)).setCell ⟨w.heap.size + 1, 10, none⟩ (.int .i64 x4)).setCell ⟨w.heap.size + 1, 11, none⟩ (.int .i64 x5)).drew).heap[w.heap.size + 1 + 1]? = some (.cells #[.slice A0 l0.length c0, .slice A1 l1.length c1, .slice A2 l2.length c2] 28 (0, 0)) := by
       refine blk_drew ?_
       refine blk_far (blk_far (blk_far (blk_far (blk_far (blk_far kr ?_ _) ?_ _) ?_ _) ?_ _) ?_ _) ?_ _ <;> simp
      have s6 : Below w.heap.size w (((((((w1.setCell ⟨w.heap.size + 1, 6, none⟩ (.int .i64 x0)).setCell ⟨w.heap.size + 1, 7, none⟩ (.int .i64 x1)).setCell ⟨w.heap.size + 1, 8, none⟩ (.int .i64 x2)).setCell ⟨w.heap.size + 1, 9, none⟩ (.int .i64 x3)).setCell ⟨w.heap.size + 1, 10, none⟩ (.int .i64 x4)).setCell ⟨w.heap.size + 1, 11, none⟩ (.int .i64 x5)).drew) := below_drew (below_set (below_set (below_set (below_set (below_set (below_set hB1 (by omega)) (by omega)) (by omega)) (by omega)) (by omega)) (by omega))
      have s7 : okT l0 l1 l2 2 = true := by
       have hp := HR.out.2.1
       have hq : listOk l1 = true := by unfold listOk; rw [HD.out.1, HV.out]; rfl
       simp only [okT, Bool.and_eq_true]; exact ⟨hp, hq⟩
      have HS := Aside0.mk (And.intro s7 (And.intro s4 (And.intro s5 s6)))
      clear s1 s2 s3 s4 s5 s6 s7 hB1 kb kr hb hb1 hsz h6
      go_wp2
      have harr := arrayAt_bank (some ad)
      go_region
      go_wp2
      go_roundw
      case rel => exact ⟨2, by simp, ⟨by omega, HS.out.1, HS.out.2.1, HS.out.2.2.1, HS.out.2.2.2⟩⟩
      case measure => simp [intOf]
    ·have b6 : ((l1.length : Int) != 6) = true := by rw [bne_iff_ne]; omega
     have H6 := Aside0.mk h6; clear h6
     go_wp2
     go_ret2
     exact ⟨.inr ⟨by
      have : listOk l1 = false := by unfold listOk; rw [show (l1.length == 6) = false from beq_false_of_ne H6.out]; rfl
      rw [this]; simp, rfl⟩, HR.out.2.2.2.2⟩
   ·have q : wr.cell? ⟨w.heap.size + 1 + 1, 2, none⟩ = some (.slice A2 l2.length c2) := by rw [blk_cell HR.out.2.2.2.1]; rfl
    by_cases h6 : l2.length = 6
    ·have b6 : ((l2.length : Int) != 6) = false := by rw [h6]; rfl
     have hC := Kd.C_below HC.out.2.2.1 HR.out.2.2.2.2
     have hcall := containsFunc_any 65 (fun n => !isNumL n) HC.out.2.2.2.2.2.2.1 HC.out.2.2.2.2.2.2.2 l2 A2 c2 wr hC HC.out.2.2.2.2.2.1
     obtain ⟨ad, x0, hA, z0, e0⟩ := int_at2 hC 0 (by omega)
     obtain ⟨ad1, x1, hA1, z1, e1⟩ := int_at2 hC 1 (by omega)
     obtain ⟨ad2, x2, hA2, z2, e2⟩ := int_at2 hC 2 (by omega)
     obtain ⟨ad3, x3, hA3, z3, e3⟩ := int_at2 hC 3 (by omega)
     obtain ⟨ad4, x4, hA4, z4, e4⟩ := int_at2 hC 4 (by omega)
     obtain ⟨ad5, x5, hA5, z5, e5⟩ := int_at2 hC 5 (by omega)
     rw [hA] at hA1 hA2 hA3 hA4 hA5
     cases hA1; cases hA2; cases hA3; cases hA4; cases hA5
     simp only [show ad.add 0 = ad by simp [Addr.add], show ad.add 1 = ⟨ad.block, ad.off + 1, none⟩ by simp [Addr.add], show ad.add 2 = ⟨ad.block, ad.off + 2, none⟩ by simp [Addr.add], show ad.add 3 = ⟨ad.block, ad.off + 3, none⟩ by simp [Addr.add], show ad.add 4 = ⟨ad.block, ad.off + 4, none⟩ by simp [Addr.add], show ad.add 5 = ⟨ad.block, ad.off + 5, none⟩ by simp [Addr.add]] at e0 e1 e2 e3 e4 e5
     have hx := six_get h6 z0 z1 z2 z3 z4 z5
     have HD : Aside0 (_ ∧ _ ∧ _) := Aside0.mk (And.intro h6 (And.intro hx (And.intro e0 (And.intro e1 (And.intro e2 (And.intro e3 (And.intro e4 e5)))))))
     rw [h6] at q hcall b6
     rw [hA] at q hcall
     have HF := Aside0.mk hcall
     clear hcall hC hA hx z0 z1 z2 z3 z4 z5 e0 e1 e2 e3 e4 e5
     cases hv : l2.any (fun n => !isNumL n) with
     | true =>
      have HV := Aside0.mk hv; clear hv
      go_wp2_with fail
      refine HF.out.mono ?_
      clear HF
      rintro e w1 ⟨rfl, hb1⟩
      rw [HV.out]
      have HB := Aside0.mk (HR.out.2.2.2.2.trans (hb1.mono HR.out.2.2.2.2.size)); clear hb1
      go_wp2
      go_ret2
      exact ⟨.inr ⟨by unfold listOk; rw [HV.out]; simp, rfl⟩, HB.out⟩
     | false =>
      have HV := Aside0.mk hv; clear hv
      go_wp2_with fail
      refine HF.out.mono ?_
      clear HF
      rintro e w1 ⟨rfl, hb1⟩
      rw [HV.out]
      have hb := hb1
      have e0 := (hb.cell (World.block_lt_of_cell? wr _ HD.out.2.2.1)).trans HD.out.2.2.1
      have e1 := (hb.cell (World.block_lt_of_cell? wr _ HD.out.2.2.2.1)).trans HD.out.2.2.2.1
      have e2 := (hb.cell (World.block_lt_of_cell? wr _ HD.out.2.2.2.2.1)).trans HD.out.2.2.2.2.1
      have e3 := (hb.cell (World.block_lt_of_cell? wr _ HD.out.2.2.2.2.2.1)).trans HD.out.2.2.2.2.2.1
      have e4 := (hb.cell (World.block_lt_of_cell? wr _ HD.out.2.2.2.2.2.2.1)).trans HD.out.2.2.2.2.2.2.1
      have e5 := (hb.cell (World.block_lt_of_cell? wr _ HD.out.2.2.2.2.2.2.2)).trans HD.out.2.2.2.2.2.2.2
      have kb := (hb.block _ (blk_lt HR.out.2.2.1)).trans HR.out.2.2.1
      have kr := (hb.block _ (blk_lt HR.out.2.2.2.1)).trans HR.out.2.2.2.1
      have hB1 : Below w.heap.size w w1 := HR.out.2.2.2.2.trans (hb1.mono HR.out.2.2.2.2.size)
      have hsz : (iv (memB l0 l1 l2 2)).toArray.size = 18 := by rw [List.size_toArray, iv_len]; exact memB_len 2 HR.out.2.1
      obtain ⟨o0, q0⟩ : ∃ o, w1.cell? ⟨w.heap.size + 1, 12, none⟩ = some o := ⟨_, (blk_cell kb 12).trans (Array.getElem?_eq_getElem (by omega))⟩
      have y0 : w1.frozen? ⟨w.heap.size + 1, 12, none⟩ = false := blk_frozen kb 12
      obtain ⟨o1, q1⟩ : ∃ o, w1.cell? ⟨w.heap.size + 1, 13, none⟩ = some o := ⟨_, (blk_cell kb 13).trans (Array.getElem?_eq_getElem (by omega))⟩
      have y1 : w1.frozen? ⟨w.heap.size + 1, 13, none⟩ = false := blk_frozen kb 13
      obtain ⟨o2, q2⟩ : ∃ o, w1.cell? ⟨w.heap.size + 1, 14, none⟩ = some o := ⟨_, (blk_cell kb 14).trans (Array.getElem?_eq_getElem (by omega))⟩
      have y2 : w1.frozen? ⟨w.heap.size + 1, 14, none⟩ = false := blk_frozen kb 14
      obtain ⟨o3, q3⟩ : ∃ o, w1.cell? ⟨w.heap.size + 1, 15, none⟩ = some o := ⟨_, (blk_cell kb 15).trans (Array.getElem?_eq_getElem (by omega))⟩
      have y3 : w1.frozen? ⟨w.heap.size + 1, 15, none⟩ = false := blk_frozen kb 15
      obtain ⟨o4, q4⟩ : ∃ o, w1.cell? ⟨w.heap.size + 1, 16, none⟩ = some o := ⟨_, (blk_cell kb 16).trans (Array.getElem?_eq_getElem (by omega))⟩
      have y4 : w1.frozen? ⟨w.heap.size + 1, 16, none⟩ = false := blk_frozen kb 16
      obtain ⟨o5, q5⟩ : ∃ o, w1.cell? ⟨w.heap.size + 1, 17, none⟩ = some o := ⟨_, (blk_cell kb 17).trans (Array.getElem?_eq_getElem (by omega))⟩
      have y5 : w1.frozen? ⟨w.heap.size + 1, 17, none⟩ = false := blk_frozen kb 17
      obtain ⟨cur, s1, s2, s3⟩ := setCells_row (g := w.heap.size + 1) [.int .i64 x0, .int .i64 x1, .int .i64 x2, .int .i64 x3, .int .i64 x4, .int .i64 x5] (2 * 6) w1 _ kb (by rw [hsz]; simp)
      have s4 : (((((((w1.setCell ⟨w.heap.size + 1, 12, none⟩ (.int .i64 x0)).setCell ⟨w.heap.size + 1, 13, none⟩ (.int .i64 x1)).setCell ⟨w.heap.size + 1, 14, none⟩ (.int .i64 x2)).setCell ⟨w.heap.size + 1, 15, none⟩ (.int .i64 x3)).setCell ⟨w.heap.size + 1, 16, none⟩ (.int .i64 x4)).setCell ⟨w.heap.size + 1, 17, none⟩ (.int .i64 x5)).drew).heap[w.heap.size + 1]? = some (.cells (iv (memB l0 l1 l2 3)).toArray 100 (0, 0)) := by
       have hput := memB_put (l := l2) 2 (by omega) HR.out.2.1 HD.out.1 rfl
       have hcur : cur = (iv (memB l0 l1 l2 3)).toArray := by
        have hiv : iv l2 = [.int .i64 x0, .int .i64 x1, .int .i64 x2, .int .i64 x3, .int .i64 x4, .int .i64 x5] := (congrArg iv HD.out.2.1).trans rfl
        apply Array.toList_inj.1
        rw [hiv] at hput
        rw [← hput]
        exact s3
       rw [← hcur]
       exact blk_drew s1
      have s5 : (((((((w1.setCell ⟨w.heap.size + 1, 12, none⟩ (.int .i64 x0)).setCell ⟨w.heap.size + 1, 13, none⟩ (.int .i64 x1)).setCell ⟨w.heap.size + 1, 14, none⟩ (.int .i64 x2)).setCell ⟨w.heap.size + 1, 15, none⟩ (.int .i64 x3)).setCell ⟨w.heap.size + 1, 16, none⟩ (.int .i64 x4)).setCell ⟨w.heap.size + 1, 17, none⟩ (.int .i64 x5)).drew).heap[w.heap.size + 1 + 1]? = some (.cells #[.slice A0 l0.length c0, .slice A1 l1.length c1, .slice A2 l2.length c2] 28 (0, 0)) := by
       refine blk_drew ?_
       refine blk_far (blk_far (blk_far (blk_far (blk_far (blk_far kr ?_ _) ?_ _) ?_ _) ?_ _) ?_ _) ?_ _ <;> simp
      have s6 : Below w.heap.size w (((((((w1.setCell ⟨w.heap.size + 1, 12, none⟩ (.int .i64 x0)).setCell ⟨w.heap.size + 1, 13, none⟩ (.int .i64 x1)).setCell ⟨w.heap.size + 1, 14, none⟩ (.int .i64 x2)).setCell ⟨w.heap.size + 1, 15, none⟩ (.int .i64 x3)).setCell ⟨w.heap.size + 1, 16, none⟩ (.int .i64 x4)).setCell ⟨w.heap.size + 1, 17, none⟩ (.int .i64 x5)).drew) := below_drew (below_set (below_set (below_set (below_set (below_set (below_set hB1 (by omega)) (by omega)) (by omega)) (by omega)) (by omega)) (by omega))
      have s7 : okT l0 l1 l2 3 = true := by
       have hp := HR.out.2.1
       have hq : listOk l2 = true := by unfold listOk; rw [HD.out.1, HV.out]; rfl
       simp only [okT, Bool.and_eq_true] at hp ⊢; exact ⟨hp.1, hp.2, hq⟩
      have HS := Aside0.mk (And.intro s7 (And.intro s4 (And.intro s5 s6)))
      clear s1 s2 s3 s4 s5 s6 s7 hB1 kb kr hb hb1 hsz h6
      go_wp2
      have harr := arrayAt_bank (some ad)
      go_region
      go_wp2
      go_roundw
      case rel => exact ⟨3, by simp, ⟨by omega, HS.out.1, HS.out.2.1, HS.out.2.2.1, HS.out.2.2.2⟩⟩
      case measure => simp [intOf]
    ·have b6 : ((l2.length : Int) != 6) = true := by rw [bne_iff_ne]; omega
     have H6 := Aside0.mk h6; clear h6
     go_wp2
     go_ret2
     exact ⟨.inr ⟨by
      have : listOk l2 = false := by unfold listOk; rw [show (l2.length == 6) = false from beq_false_of_ne H6.out]; rfl
      rw [this]; simp, rfl⟩, HR.out.2.2.2.2⟩
  ·have hj3 : j = 3 := by have := HR.out.1; omega
   subst hj3
   go_wp2
   go_ret2
   refine ⟨.inl ⟨HR.out.2.1, w.heap.size + 1, Nat.le_succ _, rfl, HR.out.2.2.1, memB_len 3 HR.out.2.1⟩, HR.out.2.2.2.2⟩
theorem readMem_any (l0 l1 l2 : List Int) (A0 A1 A2 : Option Addr) (c0 c1 c2 : Nat) (w : World) (h0 : Kd.C (Kd.int .i64) w A0 l0.length l0) (h1 : Kd.C (Kd.int .i64) w A1 l1.length l1) (h2 : Kd.C (Kd.int .i64) w A2 l2.length l2) (m0 : l0.length ≤ c0) (m1 : l1.length ≤ c1) (m2 : l2.length ≤ c2) :
  Calls Tryz.prog 35 #[.agg #[.slice A0 l0.length c0, .slice A1 l1.length c1, .slice A2 l2.length c2]] w fun e w' =>
   (((listOk l0 && (listOk l1 && listOk l2)) = true ∧ ∃ g, e = .returned (.tuple #[.pointer (some ⟨g, 0, none⟩), .bool true]) ∧ MemAt w' g (l0 ++ l1 ++ l2)) ∨ ((listOk l0 && (listOk l1 && listOk l2)) = false ∧ e = .returned (.tuple #[.pointer none, .bool false]))) ∧ Below w.heap.size w w' := by
 refine (readMem_new l0 l1 l2 A0 A1 A2 c0 c1 c2 w h0 h1 h2 m0 m1 m2).mono ?_
 rintro e w' ⟨⟨hv, g, _, he, hm⟩ | h, hb⟩
 ·exact ⟨.inl ⟨hv, g, he, hm⟩, hb⟩
 ·exact ⟨.inr h, hb⟩
end Go.Proofs.YtendbgedpjcocaaGreatDoor.B
